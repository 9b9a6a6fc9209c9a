/- isa.Right, exactly. -/
import Derived.Test.YtcaifejfkpmeeaaGreatMgab
import Derived.Test.YtcaifejfkpmeeaaGreatMgaj
import Derived.Laws.Rows
namespace Go.Proofs.YtcaifejfkpmeeaaGreat
open Go.RowKit
set_option linter.unusedVariables false
set_option linter.unusedSimpArgs false

theorem results_cell_tmp_row {P : Program} {fn : Func} {p u : Tmp} {ty : TypeId} (h : fn.results = #[.cell p ty, .tmp u]) (tmps : Array Value) (w : World) (g : Nat) (t : TypeId) (cs : Array Value) (fr : Nat × Nat) (d : TypeDesc)
    (hp : tmps.getD p undef = .pointer (some ⟨g, 0, none⟩)) (hg : w.heap[g]? = some (.cells cs t fr))
    (hu : P.underlying ty = some d) (hd : (match d with | .struct _ | .array _ _ => true | _ => false) = true) (hi : (P.info? ty).map (·.size) = some cs.size) :
    (results fn tmps).run P w = .ok (.tuple #[.agg cs, tmps.getD u undef]) w := by
  have hp' : tmps[p]?.getD undef = .pointer (some ⟨g, 0, none⟩) := by simpa using hp
  simp [results, h, hp', asAddr, run_loadVar_row w g t ty cs fr d hg hu hd hi]
theorem ireg_any (n : Int) (w : World) :
    Calls Tryz.prog 75 #[.int .i64 n] w fun e w' => e = .returned (.bool (inB n 0 31)) ∧ w = w' := by
  have H : Hid (inB n 0 31 = decide (0 ≤ n ∧ n ≤ 31)) := rfl
  by_cases h1 : 0 ≤ n <;> by_cases h2 : n ≤ 31 <;> (
    go_enter Tryz.func75, Tryz.ntmps75
    go_wp2
    go_ret
    refine ⟨ret_bool ?_, rfl⟩
    rw [H.out]
    simp [h1, h2])
theorem low_15 (n : Int) (w : World) :
    Calls Tryz.prog 94 #[.int .i64 n, .int .i64 15] w fun e w' => e = .returned (.bool (inB n 0 32767)) ∧ w = w' := by
  have H : Hid (inB n 0 32767 = decide (0 ≤ n ∧ n ≤ 32767)) := rfl
  by_cases h1 : 0 ≤ n <;> by_cases h2 : n < 32768 <;> (
    go_enter Tryz.func94, Tryz.ntmps94
    go_wp2
    go_ret
    refine ⟨ret_bool ?_, rfl⟩
    rw [H.out]
    simp [h1]
    try omega)
theorem low_12 (n : Int) (w : World) :
    Calls Tryz.prog 94 #[.int .i64 n, .int .i64 12] w fun e w' => e = .returned (.bool (inB n 0 4095)) ∧ w = w' := by
  have H : Hid (inB n 0 4095 = decide (0 ≤ n ∧ n ≤ 4095)) := rfl
  by_cases h1 : 0 ≤ n <;> by_cases h2 : n < 4096 <;> (
    go_enter Tryz.func94, Tryz.ntmps94
    go_wp2
    go_ret
    refine ⟨ret_bool ?_, rfl⟩
    rw [H.out]
    simp [h1]
    try omega)
theorem low_16 (n : Int) (w : World) :
    Calls Tryz.prog 94 #[.int .i64 n, .int .i64 16] w fun e w' => e = .returned (.bool (inB n 0 65535)) ∧ w = w' := by
  have H : Hid (inB n 0 65535 = decide (0 ≤ n ∧ n ≤ 65535)) := rfl
  by_cases h1 : 0 ≤ n <;> by_cases h2 : n < 65536 <;> (
    go_enter Tryz.func94, Tryz.ntmps94
    go_wp2
    go_ret
    refine ⟨ret_bool ?_, rfl⟩
    rw [H.out]
    simp [h1]
    try omega)
theorem low_2 (n : Int) (w : World) :
    Calls Tryz.prog 94 #[.int .i64 n, .int .i64 2] w fun e w' => e = .returned (.bool (inB n 0 3)) ∧ w = w' := by
  have H : Hid (inB n 0 3 = decide (0 ≤ n ∧ n ≤ 3)) := rfl
  by_cases h1 : 0 ≤ n <;> by_cases h2 : n < 4 <;> (
    go_enter Tryz.func94, Tryz.ntmps94
    go_wp2
    go_ret
    refine ⟨ret_bool ?_, rfl⟩
    rw [H.out]
    simp [h1]
    try omega)
theorem low_1 (n : Int) (w : World) :
    Calls Tryz.prog 94 #[.int .i64 n, .int .i64 1] w fun e w' => e = .returned (.bool (inB n 0 1)) ∧ w = w' := by
  have H : Hid (inB n 0 1 = decide (0 ≤ n ∧ n ≤ 1)) := rfl
  by_cases h1 : 0 ≤ n <;> by_cases h2 : n < 2 <;> (
    go_enter Tryz.func94, Tryz.ntmps94
    go_wp2
    go_ret
    refine ⟨ret_bool ?_, rfl⟩
    rw [H.out]
    simp [h1]
    try omega)
theorem low_3 (n : Int) (w : World) :
    Calls Tryz.prog 94 #[.int .i64 n, .int .i64 3] w fun e w' => e = .returned (.bool (inB n 0 7)) ∧ w = w' := by
  have H : Hid (inB n 0 7 = decide (0 ≤ n ∧ n ≤ 7)) := rfl
  by_cases h1 : 0 ≤ n <;> by_cases h2 : n < 8 <;> (
    go_enter Tryz.func94, Tryz.ntmps94
    go_wp2
    go_ret
    refine ⟨ret_bool ?_, rfl⟩
    rw [H.out]
    simp [h1]
    try omega)
theorem fits_26 (n : Int) (w : World) :
    Calls Tryz.prog 95 #[.int .i64 n, .int .i64 26] w fun e w' => e = .returned (.bool (inB n (-33554432) 33554431)) ∧ w = w' := by
  have H : Hid (inB n (-33554432) 33554431 = decide (-33554432 ≤ n ∧ n ≤ 33554431)) := rfl
  by_cases h1 : -33554432 ≤ n <;> by_cases h2 : n < 33554432 <;> (
    go_enter Tryz.func95, Tryz.ntmps95
    go_wp2
    go_ret
    refine ⟨ret_bool ?_, rfl⟩
    rw [H.out]
    simp [h1]
    try omega)
theorem fits_19 (n : Int) (w : World) :
    Calls Tryz.prog 95 #[.int .i64 n, .int .i64 19] w fun e w' => e = .returned (.bool (inB n (-262144) 262143)) ∧ w = w' := by
  have H : Hid (inB n (-262144) 262143 = decide (-262144 ≤ n ∧ n ≤ 262143)) := rfl
  by_cases h1 : -262144 ≤ n <;> by_cases h2 : n < 262144 <;> (
    go_enter Tryz.func95, Tryz.ntmps95
    go_wp2
    go_ret
    refine ⟨ret_bool ?_, rfl⟩
    rw [H.out]
    simp [h1]
    try omega)
def lowT (b : Int) : Int := if b = 1 then 1 else if b = 2 then 3 else if b = 3 then 7 else if b = 12 then 4095 else if b = 15 then 32767 else 65535
theorem low_any (n b : Int) (w : World) (hb : b = 1 ∨ b = 2 ∨ b = 3 ∨ b = 12 ∨ b = 15 ∨ b = 16) :
    Calls Tryz.prog 94 #[.int .i64 n, .int .i64 b] w fun e w' => e = .returned (.bool (inB n 0 (lowT b))) ∧ w = w' := by
  rcases hb with rfl | rfl | rfl | rfl | rfl | rfl
  · exact low_1 n w
  · exact low_2 n w
  · exact low_3 n w
  · exact low_12 n w
  · exact low_15 n w
  · exact low_16 n w
def fitsL (b : Int) : Int := if b = 26 then -33554432 else -262144
def fitsH (b : Int) : Int := if b = 26 then 33554431 else 262143
theorem fits_any (n b : Int) (w : World) (hb : b = 26 ∨ b = 19) :
    Calls Tryz.prog 95 #[.int .i64 n, .int .i64 b] w fun e w' => e = .returned (.bool (inB n (fitsL b) (fitsH b))) ∧ w = w' := by
  rcases hb with rfl | rfl
  · exact fits_26 n w
  · exact fits_19 n w
def barB (k : Int) : Bool := decide ((9 ≤ k ∧ k ≤ 11) ∨ (13 ≤ k ∧ k ≤ 15))
theorem ibar_any (n : Int) (w : World) :
    Calls Tryz.prog 96 #[.int .i64 n] w fun e w' => e = .returned (.bool (barB n)) ∧ w = w' := by
  by_cases h9 : n = 9
  · subst h9; go_enter Tryz.func96, Tryz.ntmps96; go_wp2; go_ret; exact ⟨rfl, rfl⟩
  by_cases h10 : n = 10
  · subst h10; go_enter Tryz.func96, Tryz.ntmps96; go_wp2; go_ret; exact ⟨rfl, rfl⟩
  by_cases h11 : n = 11
  · subst h11; go_enter Tryz.func96, Tryz.ntmps96; go_wp2; go_ret; exact ⟨rfl, rfl⟩
  by_cases h13 : n = 13
  · subst h13; go_enter Tryz.func96, Tryz.ntmps96; go_wp2; go_ret; exact ⟨rfl, rfl⟩
  by_cases h14 : n = 14
  · subst h14; go_enter Tryz.func96, Tryz.ntmps96; go_wp2; go_ret; exact ⟨rfl, rfl⟩
  by_cases h15 : n = 15
  · subst h15; go_enter Tryz.func96, Tryz.ntmps96; go_wp2; go_ret; exact ⟨rfl, rfl⟩
  have e9 : (n == 9) = false := beq_eq_false_iff_ne.2 h9
  have e10 : (n == 10) = false := beq_eq_false_iff_ne.2 h10
  have e11 : (n == 11) = false := beq_eq_false_iff_ne.2 h11
  have e13 : (n == 13) = false := beq_eq_false_iff_ne.2 h13
  have e14 : (n == 14) = false := beq_eq_false_iff_ne.2 h14
  have e15 : (n == 15) = false := beq_eq_false_iff_ne.2 h15
  have HX := Lib.hid (show barB n = false from decide_eq_false (by omega))
  go_enter Tryz.func96, Tryz.ntmps96
  go_wp2
  go_ret
  exact ⟨by rw [HX.out]; rfl, rfl⟩
theorem iparts_1 (w : World) : Calls Tryz.prog 74 #[.int .i64 1] w fun e w' => e = .returned (.tuple #[.agg #[.bool false, .bool false, .bool false, .bool false, .bool false], .bool true]) ∧ Below w.heap.size w w' := by
  have HB := Lib.hid (below_alloc (Below.refl w.heap.size w) (.cells #[.bool false, .bool false, .bool false, .bool false, .bool false] 127))
  have HN := Lib.hid (Blk.new w 127 [.bool false, .bool false, .bool false, .bool false, .bool false])
  go_enter Tryz.func74, Tryz.ntmps74
  go_wp2
  exact bodyPost_ret (results_cell_tmp_row rfl _ _ w.heap.size 127 #[.bool false, .bool false, .bool false, .bool false, .bool false] (0, 0) _ rfl HN.out Tryz.underlying127 rfl (by kernel_rfl)) rfl ⟨rfl, HB.out⟩
theorem iparts_2 (w : World) : Calls Tryz.prog 74 #[.int .i64 2] w fun e w' => e = .returned (.tuple #[.agg #[.bool true, .bool true, .bool false, .bool true, .bool false], .bool true]) ∧ Below w.heap.size w w' := by
  have HB := Lib.hid (below_alloc (Below.refl w.heap.size w) (.cells #[.bool true, .bool true, .bool false, .bool true, .bool false] 127))
  have HN := Lib.hid (Blk.new w 127 [.bool true, .bool true, .bool false, .bool true, .bool false])
  go_enter Tryz.func74, Tryz.ntmps74
  go_wp2
  exact bodyPost_ret (results_cell_tmp_row rfl _ _ w.heap.size 127 #[.bool true, .bool true, .bool false, .bool true, .bool false] (0, 0) _ rfl HN.out Tryz.underlying127 rfl (by kernel_rfl)) rfl ⟨rfl, HB.out⟩
theorem iparts_3 (w : World) : Calls Tryz.prog 74 #[.int .i64 3] w fun e w' => e = .returned (.tuple #[.agg #[.bool true, .bool true, .bool false, .bool true, .bool false], .bool true]) ∧ Below w.heap.size w w' := by
  have HB := Lib.hid (below_alloc (Below.refl w.heap.size w) (.cells #[.bool true, .bool true, .bool false, .bool true, .bool false] 127))
  have HN := Lib.hid (Blk.new w 127 [.bool true, .bool true, .bool false, .bool true, .bool false])
  go_enter Tryz.func74, Tryz.ntmps74
  go_wp2
  exact bodyPost_ret (results_cell_tmp_row rfl _ _ w.heap.size 127 #[.bool true, .bool true, .bool false, .bool true, .bool false] (0, 0) _ rfl HN.out Tryz.underlying127 rfl (by kernel_rfl)) rfl ⟨rfl, HB.out⟩
theorem iparts_4 (w : World) : Calls Tryz.prog 74 #[.int .i64 4] w fun e w' => e = .returned (.tuple #[.agg #[.bool true, .bool true, .bool false, .bool false, .bool false], .bool true]) ∧ Below w.heap.size w w' := by
  have HB := Lib.hid (below_alloc (Below.refl w.heap.size w) (.cells #[.bool true, .bool true, .bool false, .bool false, .bool false] 127))
  have HN := Lib.hid (Blk.new w 127 [.bool true, .bool true, .bool false, .bool false, .bool false])
  go_enter Tryz.func74, Tryz.ntmps74
  go_wp2
  exact bodyPost_ret (results_cell_tmp_row rfl _ _ w.heap.size 127 #[.bool true, .bool true, .bool false, .bool false, .bool false] (0, 0) _ rfl HN.out Tryz.underlying127 rfl (by kernel_rfl)) rfl ⟨rfl, HB.out⟩
theorem iparts_5 (w : World) : Calls Tryz.prog 74 #[.int .i64 5] w fun e w' => e = .returned (.tuple #[.agg #[.bool true, .bool true, .bool false, .bool false, .bool false], .bool true]) ∧ Below w.heap.size w w' := by
  have HB := Lib.hid (below_alloc (Below.refl w.heap.size w) (.cells #[.bool true, .bool true, .bool false, .bool false, .bool false] 127))
  have HN := Lib.hid (Blk.new w 127 [.bool true, .bool true, .bool false, .bool false, .bool false])
  go_enter Tryz.func74, Tryz.ntmps74
  go_wp2
  exact bodyPost_ret (results_cell_tmp_row rfl _ _ w.heap.size 127 #[.bool true, .bool true, .bool false, .bool false, .bool false] (0, 0) _ rfl HN.out Tryz.underlying127 rfl (by kernel_rfl)) rfl ⟨rfl, HB.out⟩
theorem iparts_6 (w : World) : Calls Tryz.prog 74 #[.int .i64 6] w fun e w' => e = .returned (.tuple #[.agg #[.bool true, .bool false, .bool false, .bool true, .bool true], .bool true]) ∧ Below w.heap.size w w' := by
  have HB := Lib.hid (below_alloc (Below.refl w.heap.size w) (.cells #[.bool true, .bool false, .bool false, .bool true, .bool true] 127))
  have HN := Lib.hid (Blk.new w 127 [.bool true, .bool false, .bool false, .bool true, .bool true])
  go_enter Tryz.func74, Tryz.ntmps74
  go_wp2
  exact bodyPost_ret (results_cell_tmp_row rfl _ _ w.heap.size 127 #[.bool true, .bool false, .bool false, .bool true, .bool true] (0, 0) _ rfl HN.out Tryz.underlying127 rfl (by kernel_rfl)) rfl ⟨rfl, HB.out⟩
theorem iparts_7 (w : World) : Calls Tryz.prog 74 #[.int .i64 7] w fun e w' => e = .returned (.tuple #[.agg #[.bool true, .bool true, .bool false, .bool true, .bool false], .bool true]) ∧ Below w.heap.size w w' := by
  have HB := Lib.hid (below_alloc (Below.refl w.heap.size w) (.cells #[.bool true, .bool true, .bool false, .bool true, .bool false] 127))
  have HN := Lib.hid (Blk.new w 127 [.bool true, .bool true, .bool false, .bool true, .bool false])
  go_enter Tryz.func74, Tryz.ntmps74
  go_wp2
  exact bodyPost_ret (results_cell_tmp_row rfl _ _ w.heap.size 127 #[.bool true, .bool true, .bool false, .bool true, .bool false] (0, 0) _ rfl HN.out Tryz.underlying127 rfl (by kernel_rfl)) rfl ⟨rfl, HB.out⟩
theorem iparts_8 (w : World) : Calls Tryz.prog 74 #[.int .i64 8] w fun e w' => e = .returned (.tuple #[.agg #[.bool true, .bool true, .bool true, .bool false, .bool false], .bool true]) ∧ Below w.heap.size w w' := by
  have HB := Lib.hid (below_alloc (Below.refl w.heap.size w) (.cells #[.bool true, .bool true, .bool true, .bool false, .bool false] 127))
  have HN := Lib.hid (Blk.new w 127 [.bool true, .bool true, .bool true, .bool false, .bool false])
  go_enter Tryz.func74, Tryz.ntmps74
  go_wp2
  exact bodyPost_ret (results_cell_tmp_row rfl _ _ w.heap.size 127 #[.bool true, .bool true, .bool true, .bool false, .bool false] (0, 0) _ rfl HN.out Tryz.underlying127 rfl (by kernel_rfl)) rfl ⟨rfl, HB.out⟩
theorem iparts_9 (w : World) : Calls Tryz.prog 74 #[.int .i64 9] w fun e w' => e = .returned (.tuple #[.agg #[.bool true, .bool true, .bool true, .bool false, .bool false], .bool true]) ∧ Below w.heap.size w w' := by
  have HB := Lib.hid (below_alloc (Below.refl w.heap.size w) (.cells #[.bool true, .bool true, .bool true, .bool false, .bool false] 127))
  have HN := Lib.hid (Blk.new w 127 [.bool true, .bool true, .bool true, .bool false, .bool false])
  go_enter Tryz.func74, Tryz.ntmps74
  go_wp2
  exact bodyPost_ret (results_cell_tmp_row rfl _ _ w.heap.size 127 #[.bool true, .bool true, .bool true, .bool false, .bool false] (0, 0) _ rfl HN.out Tryz.underlying127 rfl (by kernel_rfl)) rfl ⟨rfl, HB.out⟩
theorem iparts_10 (w : World) : Calls Tryz.prog 74 #[.int .i64 10] w fun e w' => e = .returned (.tuple #[.agg #[.bool true, .bool true, .bool true, .bool false, .bool false], .bool true]) ∧ Below w.heap.size w w' := by
  have HB := Lib.hid (below_alloc (Below.refl w.heap.size w) (.cells #[.bool true, .bool true, .bool true, .bool false, .bool false] 127))
  have HN := Lib.hid (Blk.new w 127 [.bool true, .bool true, .bool true, .bool false, .bool false])
  go_enter Tryz.func74, Tryz.ntmps74
  go_wp2
  exact bodyPost_ret (results_cell_tmp_row rfl _ _ w.heap.size 127 #[.bool true, .bool true, .bool true, .bool false, .bool false] (0, 0) _ rfl HN.out Tryz.underlying127 rfl (by kernel_rfl)) rfl ⟨rfl, HB.out⟩
theorem iparts_11 (w : World) : Calls Tryz.prog 74 #[.int .i64 11] w fun e w' => e = .returned (.tuple #[.agg #[.bool true, .bool true, .bool true, .bool false, .bool false], .bool true]) ∧ Below w.heap.size w w' := by
  have HB := Lib.hid (below_alloc (Below.refl w.heap.size w) (.cells #[.bool true, .bool true, .bool true, .bool false, .bool false] 127))
  have HN := Lib.hid (Blk.new w 127 [.bool true, .bool true, .bool true, .bool false, .bool false])
  go_enter Tryz.func74, Tryz.ntmps74
  go_wp2
  exact bodyPost_ret (results_cell_tmp_row rfl _ _ w.heap.size 127 #[.bool true, .bool true, .bool true, .bool false, .bool false] (0, 0) _ rfl HN.out Tryz.underlying127 rfl (by kernel_rfl)) rfl ⟨rfl, HB.out⟩
theorem iparts_12 (w : World) : Calls Tryz.prog 74 #[.int .i64 12] w fun e w' => e = .returned (.tuple #[.agg #[.bool true, .bool true, .bool true, .bool false, .bool false], .bool true]) ∧ Below w.heap.size w w' := by
  have HB := Lib.hid (below_alloc (Below.refl w.heap.size w) (.cells #[.bool true, .bool true, .bool true, .bool false, .bool false] 127))
  have HN := Lib.hid (Blk.new w 127 [.bool true, .bool true, .bool true, .bool false, .bool false])
  go_enter Tryz.func74, Tryz.ntmps74
  go_wp2
  exact bodyPost_ret (results_cell_tmp_row rfl _ _ w.heap.size 127 #[.bool true, .bool true, .bool true, .bool false, .bool false] (0, 0) _ rfl HN.out Tryz.underlying127 rfl (by kernel_rfl)) rfl ⟨rfl, HB.out⟩
theorem iparts_13 (w : World) : Calls Tryz.prog 74 #[.int .i64 13] w fun e w' => e = .returned (.tuple #[.agg #[.bool true, .bool true, .bool true, .bool false, .bool false], .bool true]) ∧ Below w.heap.size w w' := by
  have HB := Lib.hid (below_alloc (Below.refl w.heap.size w) (.cells #[.bool true, .bool true, .bool true, .bool false, .bool false] 127))
  have HN := Lib.hid (Blk.new w 127 [.bool true, .bool true, .bool true, .bool false, .bool false])
  go_enter Tryz.func74, Tryz.ntmps74
  go_wp2
  exact bodyPost_ret (results_cell_tmp_row rfl _ _ w.heap.size 127 #[.bool true, .bool true, .bool true, .bool false, .bool false] (0, 0) _ rfl HN.out Tryz.underlying127 rfl (by kernel_rfl)) rfl ⟨rfl, HB.out⟩
theorem iparts_14 (w : World) : Calls Tryz.prog 74 #[.int .i64 14] w fun e w' => e = .returned (.tuple #[.agg #[.bool false, .bool false, .bool false, .bool true, .bool false], .bool true]) ∧ Below w.heap.size w w' := by
  have HB := Lib.hid (below_alloc (Below.refl w.heap.size w) (.cells #[.bool false, .bool false, .bool false, .bool true, .bool false] 127))
  have HN := Lib.hid (Blk.new w 127 [.bool false, .bool false, .bool false, .bool true, .bool false])
  go_enter Tryz.func74, Tryz.ntmps74
  go_wp2
  exact bodyPost_ret (results_cell_tmp_row rfl _ _ w.heap.size 127 #[.bool false, .bool false, .bool false, .bool true, .bool false] (0, 0) _ rfl HN.out Tryz.underlying127 rfl (by kernel_rfl)) rfl ⟨rfl, HB.out⟩
theorem iparts_15 (w : World) : Calls Tryz.prog 74 #[.int .i64 15] w fun e w' => e = .returned (.tuple #[.agg #[.bool true, .bool false, .bool false, .bool true, .bool false], .bool true]) ∧ Below w.heap.size w w' := by
  have HB := Lib.hid (below_alloc (Below.refl w.heap.size w) (.cells #[.bool true, .bool false, .bool false, .bool true, .bool false] 127))
  have HN := Lib.hid (Blk.new w 127 [.bool true, .bool false, .bool false, .bool true, .bool false])
  go_enter Tryz.func74, Tryz.ntmps74
  go_wp2
  exact bodyPost_ret (results_cell_tmp_row rfl _ _ w.heap.size 127 #[.bool true, .bool false, .bool false, .bool true, .bool false] (0, 0) _ rfl HN.out Tryz.underlying127 rfl (by kernel_rfl)) rfl ⟨rfl, HB.out⟩
theorem iparts_16 (w : World) : Calls Tryz.prog 74 #[.int .i64 16] w fun e w' => e = .returned (.tuple #[.agg #[.bool true, .bool false, .bool false, .bool true, .bool false], .bool true]) ∧ Below w.heap.size w w' := by
  have HB := Lib.hid (below_alloc (Below.refl w.heap.size w) (.cells #[.bool true, .bool false, .bool false, .bool true, .bool false] 127))
  have HN := Lib.hid (Blk.new w 127 [.bool true, .bool false, .bool false, .bool true, .bool false])
  go_enter Tryz.func74, Tryz.ntmps74
  go_wp2
  exact bodyPost_ret (results_cell_tmp_row rfl _ _ w.heap.size 127 #[.bool true, .bool false, .bool false, .bool true, .bool false] (0, 0) _ rfl HN.out Tryz.underlying127 rfl (by kernel_rfl)) rfl ⟨rfl, HB.out⟩
theorem iparts_17 (w : World) : Calls Tryz.prog 74 #[.int .i64 17] w fun e w' => e = .returned (.tuple #[.agg #[.bool false, .bool false, .bool false, .bool true, .bool true], .bool true]) ∧ Below w.heap.size w w' := by
  have HB := Lib.hid (below_alloc (Below.refl w.heap.size w) (.cells #[.bool false, .bool false, .bool false, .bool true, .bool true] 127))
  have HN := Lib.hid (Blk.new w 127 [.bool false, .bool false, .bool false, .bool true, .bool true])
  go_enter Tryz.func74, Tryz.ntmps74
  go_wp2
  exact bodyPost_ret (results_cell_tmp_row rfl _ _ w.heap.size 127 #[.bool false, .bool false, .bool false, .bool true, .bool true] (0, 0) _ rfl HN.out Tryz.underlying127 rfl (by kernel_rfl)) rfl ⟨rfl, HB.out⟩
theorem iparts_18 (w : World) : Calls Tryz.prog 74 #[.int .i64 18] w fun e w' => e = .returned (.tuple #[.agg #[.bool false, .bool false, .bool false, .bool false, .bool true], .bool true]) ∧ Below w.heap.size w w' := by
  have HB := Lib.hid (below_alloc (Below.refl w.heap.size w) (.cells #[.bool false, .bool false, .bool false, .bool false, .bool true] 127))
  have HN := Lib.hid (Blk.new w 127 [.bool false, .bool false, .bool false, .bool false, .bool true])
  go_enter Tryz.func74, Tryz.ntmps74
  go_wp2
  exact bodyPost_ret (results_cell_tmp_row rfl _ _ w.heap.size 127 #[.bool false, .bool false, .bool false, .bool false, .bool true] (0, 0) _ rfl HN.out Tryz.underlying127 rfl (by kernel_rfl)) rfl ⟨rfl, HB.out⟩
theorem iparts_19 (w : World) : Calls Tryz.prog 74 #[.int .i64 19] w fun e w' => e = .returned (.tuple #[.agg #[.bool false, .bool false, .bool false, .bool false, .bool true], .bool true]) ∧ Below w.heap.size w w' := by
  have HB := Lib.hid (below_alloc (Below.refl w.heap.size w) (.cells #[.bool false, .bool false, .bool false, .bool false, .bool true] 127))
  have HN := Lib.hid (Blk.new w 127 [.bool false, .bool false, .bool false, .bool false, .bool true])
  go_enter Tryz.func74, Tryz.ntmps74
  go_wp2
  exact bodyPost_ret (results_cell_tmp_row rfl _ _ w.heap.size 127 #[.bool false, .bool false, .bool false, .bool false, .bool true] (0, 0) _ rfl HN.out Tryz.underlying127 rfl (by kernel_rfl)) rfl ⟨rfl, HB.out⟩
theorem iparts_20 (w : World) : Calls Tryz.prog 74 #[.int .i64 20] w fun e w' => e = .returned (.tuple #[.agg #[.bool false, .bool false, .bool false, .bool false, .bool false], .bool true]) ∧ Below w.heap.size w w' := by
  have HB := Lib.hid (below_alloc (Below.refl w.heap.size w) (.cells #[.bool false, .bool false, .bool false, .bool false, .bool false] 127))
  have HN := Lib.hid (Blk.new w 127 [.bool false, .bool false, .bool false, .bool false, .bool false])
  go_enter Tryz.func74, Tryz.ntmps74
  go_wp2
  exact bodyPost_ret (results_cell_tmp_row rfl _ _ w.heap.size 127 #[.bool false, .bool false, .bool false, .bool false, .bool false] (0, 0) _ rfl HN.out Tryz.underlying127 rfl (by kernel_rfl)) rfl ⟨rfl, HB.out⟩
theorem iparts_21 (w : World) : Calls Tryz.prog 74 #[.int .i64 21] w fun e w' => e = .returned (.tuple #[.agg #[.bool true, .bool false, .bool false, .bool false, .bool true], .bool true]) ∧ Below w.heap.size w w' := by
  have HB := Lib.hid (below_alloc (Below.refl w.heap.size w) (.cells #[.bool true, .bool false, .bool false, .bool false, .bool true] 127))
  have HN := Lib.hid (Blk.new w 127 [.bool true, .bool false, .bool false, .bool false, .bool true])
  go_enter Tryz.func74, Tryz.ntmps74
  go_wp2
  exact bodyPost_ret (results_cell_tmp_row rfl _ _ w.heap.size 127 #[.bool true, .bool false, .bool false, .bool false, .bool true] (0, 0) _ rfl HN.out Tryz.underlying127 rfl (by kernel_rfl)) rfl ⟨rfl, HB.out⟩
theorem iparts_22 (w : World) : Calls Tryz.prog 74 #[.int .i64 22] w fun e w' => e = .returned (.tuple #[.agg #[.bool false, .bool false, .bool false, .bool false, .bool false], .bool true]) ∧ Below w.heap.size w w' := by
  have HB := Lib.hid (below_alloc (Below.refl w.heap.size w) (.cells #[.bool false, .bool false, .bool false, .bool false, .bool false] 127))
  have HN := Lib.hid (Blk.new w 127 [.bool false, .bool false, .bool false, .bool false, .bool false])
  go_enter Tryz.func74, Tryz.ntmps74
  go_wp2
  exact bodyPost_ret (results_cell_tmp_row rfl _ _ w.heap.size 127 #[.bool false, .bool false, .bool false, .bool false, .bool false] (0, 0) _ rfl HN.out Tryz.underlying127 rfl (by kernel_rfl)) rfl ⟨rfl, HB.out⟩
theorem iparts_23 (w : World) : Calls Tryz.prog 74 #[.int .i64 23] w fun e w' => e = .returned (.tuple #[.agg #[.bool true, .bool false, .bool false, .bool false, .bool true], .bool true]) ∧ Below w.heap.size w w' := by
  have HB := Lib.hid (below_alloc (Below.refl w.heap.size w) (.cells #[.bool true, .bool false, .bool false, .bool false, .bool true] 127))
  have HN := Lib.hid (Blk.new w 127 [.bool true, .bool false, .bool false, .bool false, .bool true])
  go_enter Tryz.func74, Tryz.ntmps74
  go_wp2
  exact bodyPost_ret (results_cell_tmp_row rfl _ _ w.heap.size 127 #[.bool true, .bool false, .bool false, .bool false, .bool true] (0, 0) _ rfl HN.out Tryz.underlying127 rfl (by kernel_rfl)) rfl ⟨rfl, HB.out⟩
theorem iparts_no (op : Int) (w : World) (h : opB op = false) : Calls Tryz.prog 74 #[.int .i64 op] w fun e w' => e = .returned (.tuple #[.agg #[.bool false, .bool false, .bool false, .bool false, .bool false], .bool false]) ∧ Below w.heap.size w w' := by
  have h' : ¬ (1 ≤ op ∧ op ≤ 23) := of_decide_eq_false h
  have HB := Lib.hid (below_alloc (Below.refl w.heap.size w) (.cells #[.bool false, .bool false, .bool false, .bool false, .bool false] 127))
  have HN := Lib.hid (Blk.new w 127 [.bool false, .bool false, .bool false, .bool false, .bool false])
  have e1 : (op == 1) = false := beq_eq_false_iff_ne.2 (by omega)
  have e2 : (op == 2) = false := beq_eq_false_iff_ne.2 (by omega)
  have e3 : (op == 3) = false := beq_eq_false_iff_ne.2 (by omega)
  have e4 : (op == 4) = false := beq_eq_false_iff_ne.2 (by omega)
  have e5 : (op == 5) = false := beq_eq_false_iff_ne.2 (by omega)
  have e6 : (op == 6) = false := beq_eq_false_iff_ne.2 (by omega)
  have e7 : (op == 7) = false := beq_eq_false_iff_ne.2 (by omega)
  have e8 : (op == 8) = false := beq_eq_false_iff_ne.2 (by omega)
  have e9 : (op == 9) = false := beq_eq_false_iff_ne.2 (by omega)
  have e10 : (op == 10) = false := beq_eq_false_iff_ne.2 (by omega)
  have e11 : (op == 11) = false := beq_eq_false_iff_ne.2 (by omega)
  have e12 : (op == 12) = false := beq_eq_false_iff_ne.2 (by omega)
  have e13 : (op == 13) = false := beq_eq_false_iff_ne.2 (by omega)
  have e14 : (op == 14) = false := beq_eq_false_iff_ne.2 (by omega)
  have e15 : (op == 15) = false := beq_eq_false_iff_ne.2 (by omega)
  have e16 : (op == 16) = false := beq_eq_false_iff_ne.2 (by omega)
  have e17 : (op == 17) = false := beq_eq_false_iff_ne.2 (by omega)
  have e18 : (op == 18) = false := beq_eq_false_iff_ne.2 (by omega)
  have e19 : (op == 19) = false := beq_eq_false_iff_ne.2 (by omega)
  have e20 : (op == 20) = false := beq_eq_false_iff_ne.2 (by omega)
  have e21 : (op == 21) = false := beq_eq_false_iff_ne.2 (by omega)
  have e22 : (op == 22) = false := beq_eq_false_iff_ne.2 (by omega)
  have e23 : (op == 23) = false := beq_eq_false_iff_ne.2 (by omega)
  clear h h'
  go_enter Tryz.func74, Tryz.ntmps74
  go_wp2
  exact bodyPost_ret (results_cell_tmp_row rfl _ _ w.heap.size 127 #[.bool false, .bool false, .bool false, .bool false, .bool false] (0, 0) _ rfl HN.out Tryz.underlying127 rfl (by kernel_rfl)) rfl ⟨rfl, HB.out⟩
def numI (op d imm kind : Int) : Bool := decide (rightC op imm kind ∧ rightD op d kind)
theorem num_iff {op d imm kind : Int} {b : Bool} (h : b = true ↔ rightC op imm kind ∧ rightD op d kind) : b = numI op d imm kind := by
  unfold numI
  cases b with
  | true => exact (decide_eq_true (h.1 rfl)).symm
  | false => exact (decide_eq_false (fun hp => by cases h.2 hp)).symm
set_option maxRecDepth 100000 in
set_option maxHeartbeats 1600000 in
theorem inum_1 (d n m imm kind : Int) (w : World) :
    Calls Tryz.prog 76 #[instrW 1 d n m imm kind] w fun e w' => e = .returned (.bool (numI 1 d imm kind)) ∧ Below w.heap.size w w' := by
  have T8 := Lib.hid (tmod_iff imm 8)
  have T4 := Lib.hid (tmod_iff kind 4)
  go_enter Tryz.func76, Tryz.ntmps76
  go_wp2_with (first | (go_at_call 94; refine (low_any _ _ _ (by decide)).mono ?_; rintro e w' ⟨rfl, rfl⟩) | (go_at_call 95; refine (fits_any _ _ _ (by decide)).mono ?_; rintro e w' ⟨rfl, rfl⟩) | (go_at_call 96; refine (ibar_any _ _).mono ?_; rintro e w' ⟨rfl, rfl⟩))
  all_goals go_ret
  all_goals (
    refine ⟨ret_bool (num_iff ?_), below_alloc (Below.refl _ _) _⟩
    simp [inB, barB, lowT, fitsL, fitsH, rightC, rightD] at *
    all_goals (
      have t8 := T8.out
      have t4 := T4.out
      try omega))
set_option maxRecDepth 100000 in
set_option maxHeartbeats 1600000 in
theorem inum_2 (d n m imm kind : Int) (w : World) :
    Calls Tryz.prog 76 #[instrW 2 d n m imm kind] w fun e w' => e = .returned (.bool (numI 2 d imm kind)) ∧ Below w.heap.size w w' := by
  have T8 := Lib.hid (tmod_iff imm 8)
  have T4 := Lib.hid (tmod_iff kind 4)
  go_enter Tryz.func76, Tryz.ntmps76
  go_wp2_with (first | (go_at_call 94; refine (low_any _ _ _ (by decide)).mono ?_; rintro e w' ⟨rfl, rfl⟩) | (go_at_call 95; refine (fits_any _ _ _ (by decide)).mono ?_; rintro e w' ⟨rfl, rfl⟩) | (go_at_call 96; refine (ibar_any _ _).mono ?_; rintro e w' ⟨rfl, rfl⟩))
  all_goals go_ret
  all_goals (
    refine ⟨ret_bool (num_iff ?_), below_alloc (Below.refl _ _) _⟩
    simp [inB, barB, lowT, fitsL, fitsH, rightC, rightD] at *
    all_goals (
      have t8 := T8.out
      have t4 := T4.out
      try omega))
set_option maxRecDepth 100000 in
set_option maxHeartbeats 1600000 in
theorem inum_3 (d n m imm kind : Int) (w : World) :
    Calls Tryz.prog 76 #[instrW 3 d n m imm kind] w fun e w' => e = .returned (.bool (numI 3 d imm kind)) ∧ Below w.heap.size w w' := by
  have T8 := Lib.hid (tmod_iff imm 8)
  have T4 := Lib.hid (tmod_iff kind 4)
  go_enter Tryz.func76, Tryz.ntmps76
  go_wp2_with (first | (go_at_call 94; refine (low_any _ _ _ (by decide)).mono ?_; rintro e w' ⟨rfl, rfl⟩) | (go_at_call 95; refine (fits_any _ _ _ (by decide)).mono ?_; rintro e w' ⟨rfl, rfl⟩) | (go_at_call 96; refine (ibar_any _ _).mono ?_; rintro e w' ⟨rfl, rfl⟩))
  all_goals go_ret
  all_goals (
    refine ⟨ret_bool (num_iff ?_), below_alloc (Below.refl _ _) _⟩
    simp [inB, barB, lowT, fitsL, fitsH, rightC, rightD] at *
    all_goals (
      have t8 := T8.out
      have t4 := T4.out
      try omega))
set_option maxRecDepth 100000 in
set_option maxHeartbeats 1600000 in
theorem inum_4 (d n m imm kind : Int) (w : World) :
    Calls Tryz.prog 76 #[instrW 4 d n m imm kind] w fun e w' => e = .returned (.bool (numI 4 d imm kind)) ∧ Below w.heap.size w w' := by
  have T8 := Lib.hid (tmod_iff imm 8)
  have T4 := Lib.hid (tmod_iff kind 4)
  go_enter Tryz.func76, Tryz.ntmps76
  go_wp2_with (first | (go_at_call 94; refine (low_any _ _ _ (by decide)).mono ?_; rintro e w' ⟨rfl, rfl⟩) | (go_at_call 95; refine (fits_any _ _ _ (by decide)).mono ?_; rintro e w' ⟨rfl, rfl⟩) | (go_at_call 96; refine (ibar_any _ _).mono ?_; rintro e w' ⟨rfl, rfl⟩))
  all_goals go_ret
  all_goals (
    refine ⟨ret_bool (num_iff ?_), below_alloc (Below.refl _ _) _⟩
    simp [inB, barB, lowT, fitsL, fitsH, rightC, rightD] at *
    all_goals (
      have t8 := T8.out
      have t4 := T4.out
      try omega))
set_option maxRecDepth 100000 in
set_option maxHeartbeats 1600000 in
theorem inum_5 (d n m imm kind : Int) (w : World) :
    Calls Tryz.prog 76 #[instrW 5 d n m imm kind] w fun e w' => e = .returned (.bool (numI 5 d imm kind)) ∧ Below w.heap.size w w' := by
  have T8 := Lib.hid (tmod_iff imm 8)
  have T4 := Lib.hid (tmod_iff kind 4)
  go_enter Tryz.func76, Tryz.ntmps76
  go_wp2_with (first | (go_at_call 94; refine (low_any _ _ _ (by decide)).mono ?_; rintro e w' ⟨rfl, rfl⟩) | (go_at_call 95; refine (fits_any _ _ _ (by decide)).mono ?_; rintro e w' ⟨rfl, rfl⟩) | (go_at_call 96; refine (ibar_any _ _).mono ?_; rintro e w' ⟨rfl, rfl⟩))
  all_goals go_ret
  all_goals (
    refine ⟨ret_bool (num_iff ?_), below_alloc (Below.refl _ _) _⟩
    simp [inB, barB, lowT, fitsL, fitsH, rightC, rightD] at *
    all_goals (
      have t8 := T8.out
      have t4 := T4.out
      try omega))
set_option maxRecDepth 100000 in
set_option maxHeartbeats 1600000 in
theorem inum_6 (d n m imm kind : Int) (w : World) :
    Calls Tryz.prog 76 #[instrW 6 d n m imm kind] w fun e w' => e = .returned (.bool (numI 6 d imm kind)) ∧ Below w.heap.size w w' := by
  have T8 := Lib.hid (tmod_iff imm 8)
  have T4 := Lib.hid (tmod_iff kind 4)
  go_enter Tryz.func76, Tryz.ntmps76
  go_wp2_with (first | (go_at_call 94; refine (low_any _ _ _ (by decide)).mono ?_; rintro e w' ⟨rfl, rfl⟩) | (go_at_call 95; refine (fits_any _ _ _ (by decide)).mono ?_; rintro e w' ⟨rfl, rfl⟩) | (go_at_call 96; refine (ibar_any _ _).mono ?_; rintro e w' ⟨rfl, rfl⟩))
  all_goals go_ret
  all_goals (
    refine ⟨ret_bool (num_iff ?_), below_alloc (Below.refl _ _) _⟩
    simp [inB, barB, lowT, fitsL, fitsH, rightC, rightD] at *
    all_goals (
      have t8 := T8.out
      have t4 := T4.out
      try omega))
set_option maxRecDepth 100000 in
set_option maxHeartbeats 1600000 in
theorem inum_7 (d n m imm kind : Int) (w : World) :
    Calls Tryz.prog 76 #[instrW 7 d n m imm kind] w fun e w' => e = .returned (.bool (numI 7 d imm kind)) ∧ Below w.heap.size w w' := by
  have T8 := Lib.hid (tmod_iff imm 8)
  have T4 := Lib.hid (tmod_iff kind 4)
  go_enter Tryz.func76, Tryz.ntmps76
  go_wp2_with (first | (go_at_call 94; refine (low_any _ _ _ (by decide)).mono ?_; rintro e w' ⟨rfl, rfl⟩) | (go_at_call 95; refine (fits_any _ _ _ (by decide)).mono ?_; rintro e w' ⟨rfl, rfl⟩) | (go_at_call 96; refine (ibar_any _ _).mono ?_; rintro e w' ⟨rfl, rfl⟩))
  all_goals go_ret
  all_goals (
    refine ⟨ret_bool (num_iff ?_), below_alloc (Below.refl _ _) _⟩
    simp [inB, barB, lowT, fitsL, fitsH, rightC, rightD] at *
    all_goals (
      have t8 := T8.out
      have t4 := T4.out
      try omega))
set_option maxRecDepth 100000 in
set_option maxHeartbeats 1600000 in
theorem inum_8 (d n m imm kind : Int) (w : World) :
    Calls Tryz.prog 76 #[instrW 8 d n m imm kind] w fun e w' => e = .returned (.bool (numI 8 d imm kind)) ∧ Below w.heap.size w w' := by
  have T8 := Lib.hid (tmod_iff imm 8)
  have T4 := Lib.hid (tmod_iff kind 4)
  go_enter Tryz.func76, Tryz.ntmps76
  go_wp2_with (first | (go_at_call 94; refine (low_any _ _ _ (by decide)).mono ?_; rintro e w' ⟨rfl, rfl⟩) | (go_at_call 95; refine (fits_any _ _ _ (by decide)).mono ?_; rintro e w' ⟨rfl, rfl⟩) | (go_at_call 96; refine (ibar_any _ _).mono ?_; rintro e w' ⟨rfl, rfl⟩))
  all_goals go_ret
  all_goals (
    refine ⟨ret_bool (num_iff ?_), below_alloc (Below.refl _ _) _⟩
    simp [inB, barB, lowT, fitsL, fitsH, rightC, rightD] at *
    all_goals (
      have t8 := T8.out
      have t4 := T4.out
      try omega))
set_option maxRecDepth 100000 in
set_option maxHeartbeats 1600000 in
theorem inum_9 (d n m imm kind : Int) (w : World) :
    Calls Tryz.prog 76 #[instrW 9 d n m imm kind] w fun e w' => e = .returned (.bool (numI 9 d imm kind)) ∧ Below w.heap.size w w' := by
  have T8 := Lib.hid (tmod_iff imm 8)
  have T4 := Lib.hid (tmod_iff kind 4)
  go_enter Tryz.func76, Tryz.ntmps76
  go_wp2_with (first | (go_at_call 94; refine (low_any _ _ _ (by decide)).mono ?_; rintro e w' ⟨rfl, rfl⟩) | (go_at_call 95; refine (fits_any _ _ _ (by decide)).mono ?_; rintro e w' ⟨rfl, rfl⟩) | (go_at_call 96; refine (ibar_any _ _).mono ?_; rintro e w' ⟨rfl, rfl⟩))
  all_goals go_ret
  all_goals (
    refine ⟨ret_bool (num_iff ?_), below_alloc (Below.refl _ _) _⟩
    simp [inB, barB, lowT, fitsL, fitsH, rightC, rightD] at *
    all_goals (
      have t8 := T8.out
      have t4 := T4.out
      try omega))
set_option maxRecDepth 100000 in
set_option maxHeartbeats 1600000 in
theorem inum_10 (d n m imm kind : Int) (w : World) :
    Calls Tryz.prog 76 #[instrW 10 d n m imm kind] w fun e w' => e = .returned (.bool (numI 10 d imm kind)) ∧ Below w.heap.size w w' := by
  have T8 := Lib.hid (tmod_iff imm 8)
  have T4 := Lib.hid (tmod_iff kind 4)
  go_enter Tryz.func76, Tryz.ntmps76
  go_wp2_with (first | (go_at_call 94; refine (low_any _ _ _ (by decide)).mono ?_; rintro e w' ⟨rfl, rfl⟩) | (go_at_call 95; refine (fits_any _ _ _ (by decide)).mono ?_; rintro e w' ⟨rfl, rfl⟩) | (go_at_call 96; refine (ibar_any _ _).mono ?_; rintro e w' ⟨rfl, rfl⟩))
  all_goals go_ret
  all_goals (
    refine ⟨ret_bool (num_iff ?_), below_alloc (Below.refl _ _) _⟩
    simp [inB, barB, lowT, fitsL, fitsH, rightC, rightD] at *
    all_goals (
      have t8 := T8.out
      have t4 := T4.out
      try omega))
set_option maxRecDepth 100000 in
set_option maxHeartbeats 1600000 in
theorem inum_11 (d n m imm kind : Int) (w : World) :
    Calls Tryz.prog 76 #[instrW 11 d n m imm kind] w fun e w' => e = .returned (.bool (numI 11 d imm kind)) ∧ Below w.heap.size w w' := by
  have T8 := Lib.hid (tmod_iff imm 8)
  have T4 := Lib.hid (tmod_iff kind 4)
  go_enter Tryz.func76, Tryz.ntmps76
  go_wp2_with (first | (go_at_call 94; refine (low_any _ _ _ (by decide)).mono ?_; rintro e w' ⟨rfl, rfl⟩) | (go_at_call 95; refine (fits_any _ _ _ (by decide)).mono ?_; rintro e w' ⟨rfl, rfl⟩) | (go_at_call 96; refine (ibar_any _ _).mono ?_; rintro e w' ⟨rfl, rfl⟩))
  all_goals go_ret
  all_goals (
    refine ⟨ret_bool (num_iff ?_), below_alloc (Below.refl _ _) _⟩
    simp [inB, barB, lowT, fitsL, fitsH, rightC, rightD] at *
    all_goals (
      have t8 := T8.out
      have t4 := T4.out
      try omega))
set_option maxRecDepth 100000 in
set_option maxHeartbeats 1600000 in
theorem inum_12 (d n m imm kind : Int) (w : World) :
    Calls Tryz.prog 76 #[instrW 12 d n m imm kind] w fun e w' => e = .returned (.bool (numI 12 d imm kind)) ∧ Below w.heap.size w w' := by
  have T8 := Lib.hid (tmod_iff imm 8)
  have T4 := Lib.hid (tmod_iff kind 4)
  go_enter Tryz.func76, Tryz.ntmps76
  go_wp2_with (first | (go_at_call 94; refine (low_any _ _ _ (by decide)).mono ?_; rintro e w' ⟨rfl, rfl⟩) | (go_at_call 95; refine (fits_any _ _ _ (by decide)).mono ?_; rintro e w' ⟨rfl, rfl⟩) | (go_at_call 96; refine (ibar_any _ _).mono ?_; rintro e w' ⟨rfl, rfl⟩))
  all_goals go_ret
  all_goals (
    refine ⟨ret_bool (num_iff ?_), below_alloc (Below.refl _ _) _⟩
    simp [inB, barB, lowT, fitsL, fitsH, rightC, rightD] at *
    all_goals (
      have t8 := T8.out
      have t4 := T4.out
      try omega))
set_option maxRecDepth 100000 in
set_option maxHeartbeats 1600000 in
theorem inum_13 (d n m imm kind : Int) (w : World) :
    Calls Tryz.prog 76 #[instrW 13 d n m imm kind] w fun e w' => e = .returned (.bool (numI 13 d imm kind)) ∧ Below w.heap.size w w' := by
  have T8 := Lib.hid (tmod_iff imm 8)
  have T4 := Lib.hid (tmod_iff kind 4)
  go_enter Tryz.func76, Tryz.ntmps76
  go_wp2_with (first | (go_at_call 94; refine (low_any _ _ _ (by decide)).mono ?_; rintro e w' ⟨rfl, rfl⟩) | (go_at_call 95; refine (fits_any _ _ _ (by decide)).mono ?_; rintro e w' ⟨rfl, rfl⟩) | (go_at_call 96; refine (ibar_any _ _).mono ?_; rintro e w' ⟨rfl, rfl⟩))
  all_goals go_ret
  all_goals (
    refine ⟨ret_bool (num_iff ?_), below_alloc (Below.refl _ _) _⟩
    simp [inB, barB, lowT, fitsL, fitsH, rightC, rightD] at *
    all_goals (
      have t8 := T8.out
      have t4 := T4.out
      try omega))
set_option maxRecDepth 100000 in
set_option maxHeartbeats 1600000 in
theorem inum_14 (d n m imm kind : Int) (w : World) :
    Calls Tryz.prog 76 #[instrW 14 d n m imm kind] w fun e w' => e = .returned (.bool (numI 14 d imm kind)) ∧ Below w.heap.size w w' := by
  have T8 := Lib.hid (tmod_iff imm 8)
  have T4 := Lib.hid (tmod_iff kind 4)
  go_enter Tryz.func76, Tryz.ntmps76
  go_wp2_with (first | (go_at_call 94; refine (low_any _ _ _ (by decide)).mono ?_; rintro e w' ⟨rfl, rfl⟩) | (go_at_call 95; refine (fits_any _ _ _ (by decide)).mono ?_; rintro e w' ⟨rfl, rfl⟩) | (go_at_call 96; refine (ibar_any _ _).mono ?_; rintro e w' ⟨rfl, rfl⟩))
  all_goals go_ret
  all_goals (
    refine ⟨ret_bool (num_iff ?_), below_alloc (Below.refl _ _) _⟩
    simp [inB, barB, lowT, fitsL, fitsH, rightC, rightD] at *
    all_goals (
      have t8 := T8.out
      have t4 := T4.out
      try omega))
set_option maxRecDepth 100000 in
set_option maxHeartbeats 1600000 in
theorem inum_15 (d n m imm kind : Int) (w : World) :
    Calls Tryz.prog 76 #[instrW 15 d n m imm kind] w fun e w' => e = .returned (.bool (numI 15 d imm kind)) ∧ Below w.heap.size w w' := by
  have T8 := Lib.hid (tmod_iff imm 8)
  have T4 := Lib.hid (tmod_iff kind 4)
  go_enter Tryz.func76, Tryz.ntmps76
  go_wp2_with (first | (go_at_call 94; refine (low_any _ _ _ (by decide)).mono ?_; rintro e w' ⟨rfl, rfl⟩) | (go_at_call 95; refine (fits_any _ _ _ (by decide)).mono ?_; rintro e w' ⟨rfl, rfl⟩) | (go_at_call 96; refine (ibar_any _ _).mono ?_; rintro e w' ⟨rfl, rfl⟩))
  all_goals go_ret
  all_goals (
    refine ⟨ret_bool (num_iff ?_), below_alloc (Below.refl _ _) _⟩
    simp [inB, barB, lowT, fitsL, fitsH, rightC, rightD] at *
    all_goals (
      have t8 := T8.out
      have t4 := T4.out
      try omega))
set_option maxRecDepth 100000 in
set_option maxHeartbeats 1600000 in
theorem inum_16 (d n m imm kind : Int) (w : World) :
    Calls Tryz.prog 76 #[instrW 16 d n m imm kind] w fun e w' => e = .returned (.bool (numI 16 d imm kind)) ∧ Below w.heap.size w w' := by
  have T8 := Lib.hid (tmod_iff imm 8)
  have T4 := Lib.hid (tmod_iff kind 4)
  go_enter Tryz.func76, Tryz.ntmps76
  go_wp2_with (first | (go_at_call 94; refine (low_any _ _ _ (by decide)).mono ?_; rintro e w' ⟨rfl, rfl⟩) | (go_at_call 95; refine (fits_any _ _ _ (by decide)).mono ?_; rintro e w' ⟨rfl, rfl⟩) | (go_at_call 96; refine (ibar_any _ _).mono ?_; rintro e w' ⟨rfl, rfl⟩))
  all_goals go_ret
  all_goals (
    refine ⟨ret_bool (num_iff ?_), below_alloc (Below.refl _ _) _⟩
    simp [inB, barB, lowT, fitsL, fitsH, rightC, rightD] at *
    all_goals (
      have t8 := T8.out
      have t4 := T4.out
      try omega))
set_option maxRecDepth 100000 in
set_option maxHeartbeats 1600000 in
theorem inum_17 (d n m imm kind : Int) (w : World) :
    Calls Tryz.prog 76 #[instrW 17 d n m imm kind] w fun e w' => e = .returned (.bool (numI 17 d imm kind)) ∧ Below w.heap.size w w' := by
  have T8 := Lib.hid (tmod_iff imm 8)
  have T4 := Lib.hid (tmod_iff kind 4)
  go_enter Tryz.func76, Tryz.ntmps76
  go_wp2_with (first | (go_at_call 94; refine (low_any _ _ _ (by decide)).mono ?_; rintro e w' ⟨rfl, rfl⟩) | (go_at_call 95; refine (fits_any _ _ _ (by decide)).mono ?_; rintro e w' ⟨rfl, rfl⟩) | (go_at_call 96; refine (ibar_any _ _).mono ?_; rintro e w' ⟨rfl, rfl⟩))
  all_goals go_ret
  all_goals (
    refine ⟨ret_bool (num_iff ?_), below_alloc (Below.refl _ _) _⟩
    simp [inB, barB, lowT, fitsL, fitsH, rightC, rightD] at *
    all_goals (
      have t8 := T8.out
      have t4 := T4.out
      try omega))
set_option maxRecDepth 100000 in
set_option maxHeartbeats 1600000 in
theorem inum_18 (d n m imm kind : Int) (w : World) :
    Calls Tryz.prog 76 #[instrW 18 d n m imm kind] w fun e w' => e = .returned (.bool (numI 18 d imm kind)) ∧ Below w.heap.size w w' := by
  have T8 := Lib.hid (tmod_iff imm 8)
  have T4 := Lib.hid (tmod_iff kind 4)
  go_enter Tryz.func76, Tryz.ntmps76
  go_wp2_with (first | (go_at_call 94; refine (low_any _ _ _ (by decide)).mono ?_; rintro e w' ⟨rfl, rfl⟩) | (go_at_call 95; refine (fits_any _ _ _ (by decide)).mono ?_; rintro e w' ⟨rfl, rfl⟩) | (go_at_call 96; refine (ibar_any _ _).mono ?_; rintro e w' ⟨rfl, rfl⟩))
  all_goals go_ret
  all_goals (
    refine ⟨ret_bool (num_iff ?_), below_alloc (Below.refl _ _) _⟩
    simp [inB, barB, lowT, fitsL, fitsH, rightC, rightD] at *
    all_goals (
      have t8 := T8.out
      have t4 := T4.out
      try omega))
set_option maxRecDepth 100000 in
set_option maxHeartbeats 1600000 in
theorem inum_19 (d n m imm kind : Int) (w : World) :
    Calls Tryz.prog 76 #[instrW 19 d n m imm kind] w fun e w' => e = .returned (.bool (numI 19 d imm kind)) ∧ Below w.heap.size w w' := by
  have T8 := Lib.hid (tmod_iff imm 8)
  have T4 := Lib.hid (tmod_iff kind 4)
  go_enter Tryz.func76, Tryz.ntmps76
  go_wp2_with (first | (go_at_call 94; refine (low_any _ _ _ (by decide)).mono ?_; rintro e w' ⟨rfl, rfl⟩) | (go_at_call 95; refine (fits_any _ _ _ (by decide)).mono ?_; rintro e w' ⟨rfl, rfl⟩) | (go_at_call 96; refine (ibar_any _ _).mono ?_; rintro e w' ⟨rfl, rfl⟩))
  all_goals go_ret
  all_goals (
    refine ⟨ret_bool (num_iff ?_), below_alloc (Below.refl _ _) _⟩
    simp [inB, barB, lowT, fitsL, fitsH, rightC, rightD] at *
    all_goals (
      have t8 := T8.out
      have t4 := T4.out
      try omega))
set_option maxRecDepth 100000 in
set_option maxHeartbeats 1600000 in
theorem inum_20 (d n m imm kind : Int) (w : World) :
    Calls Tryz.prog 76 #[instrW 20 d n m imm kind] w fun e w' => e = .returned (.bool (numI 20 d imm kind)) ∧ Below w.heap.size w w' := by
  have T8 := Lib.hid (tmod_iff imm 8)
  have T4 := Lib.hid (tmod_iff kind 4)
  go_enter Tryz.func76, Tryz.ntmps76
  go_wp2_with (first | (go_at_call 94; refine (low_any _ _ _ (by decide)).mono ?_; rintro e w' ⟨rfl, rfl⟩) | (go_at_call 95; refine (fits_any _ _ _ (by decide)).mono ?_; rintro e w' ⟨rfl, rfl⟩) | (go_at_call 96; refine (ibar_any _ _).mono ?_; rintro e w' ⟨rfl, rfl⟩))
  all_goals go_ret
  all_goals (
    refine ⟨ret_bool (num_iff ?_), below_alloc (Below.refl _ _) _⟩
    simp [inB, barB, lowT, fitsL, fitsH, rightC, rightD] at *
    all_goals (
      have t8 := T8.out
      have t4 := T4.out
      try omega))
set_option maxRecDepth 100000 in
set_option maxHeartbeats 1600000 in
theorem inum_21 (d n m imm kind : Int) (w : World) :
    Calls Tryz.prog 76 #[instrW 21 d n m imm kind] w fun e w' => e = .returned (.bool (numI 21 d imm kind)) ∧ Below w.heap.size w w' := by
  have T8 := Lib.hid (tmod_iff imm 8)
  have T4 := Lib.hid (tmod_iff kind 4)
  go_enter Tryz.func76, Tryz.ntmps76
  go_wp2_with (first | (go_at_call 94; refine (low_any _ _ _ (by decide)).mono ?_; rintro e w' ⟨rfl, rfl⟩) | (go_at_call 95; refine (fits_any _ _ _ (by decide)).mono ?_; rintro e w' ⟨rfl, rfl⟩) | (go_at_call 96; refine (ibar_any _ _).mono ?_; rintro e w' ⟨rfl, rfl⟩))
  all_goals go_ret
  all_goals (
    refine ⟨ret_bool (num_iff ?_), below_alloc (Below.refl _ _) _⟩
    simp [inB, barB, lowT, fitsL, fitsH, rightC, rightD] at *
    all_goals (
      have t8 := T8.out
      have t4 := T4.out
      try omega))
set_option maxRecDepth 100000 in
set_option maxHeartbeats 1600000 in
theorem inum_22 (d n m imm kind : Int) (w : World) :
    Calls Tryz.prog 76 #[instrW 22 d n m imm kind] w fun e w' => e = .returned (.bool (numI 22 d imm kind)) ∧ Below w.heap.size w w' := by
  have T8 := Lib.hid (tmod_iff imm 8)
  have T4 := Lib.hid (tmod_iff kind 4)
  go_enter Tryz.func76, Tryz.ntmps76
  go_wp2_with (first | (go_at_call 94; refine (low_any _ _ _ (by decide)).mono ?_; rintro e w' ⟨rfl, rfl⟩) | (go_at_call 95; refine (fits_any _ _ _ (by decide)).mono ?_; rintro e w' ⟨rfl, rfl⟩) | (go_at_call 96; refine (ibar_any _ _).mono ?_; rintro e w' ⟨rfl, rfl⟩))
  all_goals go_ret
  all_goals (
    refine ⟨ret_bool (num_iff ?_), below_alloc (Below.refl _ _) _⟩
    simp [inB, barB, lowT, fitsL, fitsH, rightC, rightD] at *
    all_goals (
      have t8 := T8.out
      have t4 := T4.out
      try omega))
set_option maxRecDepth 100000 in
set_option maxHeartbeats 1600000 in
theorem inum_23 (d n m imm kind : Int) (w : World) :
    Calls Tryz.prog 76 #[instrW 23 d n m imm kind] w fun e w' => e = .returned (.bool (numI 23 d imm kind)) ∧ Below w.heap.size w w' := by
  have T8 := Lib.hid (tmod_iff imm 8)
  have T4 := Lib.hid (tmod_iff kind 4)
  go_enter Tryz.func76, Tryz.ntmps76
  go_wp2_with (first | (go_at_call 94; refine (low_any _ _ _ (by decide)).mono ?_; rintro e w' ⟨rfl, rfl⟩) | (go_at_call 95; refine (fits_any _ _ _ (by decide)).mono ?_; rintro e w' ⟨rfl, rfl⟩) | (go_at_call 96; refine (ibar_any _ _).mono ?_; rintro e w' ⟨rfl, rfl⟩))
  all_goals go_ret
  all_goals (
    refine ⟨ret_bool (num_iff ?_), below_alloc (Below.refl _ _) _⟩
    simp [inB, barB, lowT, fitsL, fitsH, rightC, rightD] at *
    all_goals (
      have t8 := T8.out
      have t4 := T4.out
      try omega))
end Go.Proofs.YtcaifejfkpmeeaaGreat
