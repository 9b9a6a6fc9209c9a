/- desc.Encode: a descriptor's word. -/
import Derived.Test.YtcaifejfkpmeeaaGreatMgal
import Derived.Test.YtcaifejfkpmeeaaGreatMgas
import Derived.Laws.Bits64b
namespace Go.Proofs.YtcaifejfkpmeeaaGreat
open Go.RowKit
set_option linter.unusedVariables false
set_option linter.unusedSimpArgs false

theorem wrapN (m : Nat) (h : m < 18446744073709551616) : IntKind.u64.wrap (m : Int) = (m : Int) := by rw [IntKind.wrap_u64]; omega
theorem shift_any (table : Bool) (level : Nat) (w : World) : Calls Tryz.prog 98 #[.bool table, .int .i64 level] w fun e w' => e = .returned (.int .i64 (shiftD table level : Nat)) ∧ w = w' := by
  by_cases h : level = 1
  · subst h
    cases table
    · go_enter Tryz.func98, Tryz.ntmps98
      go_wp2
      go_ret
      exact ⟨rfl, rfl⟩
    · go_enter Tryz.func98, Tryz.ntmps98
      go_wp2
      go_ret
      exact ⟨rfl, rfl⟩
  · have hb : ((level : Int) == 1) = false := beq_eq_false_iff_ne.2 (by omega)
    have H := Lib.hid (show shiftD table level = 12 by unfold shiftD; rw [if_neg (fun h1 => h h1.1)])
    clear h
    go_enter Tryz.func98, Tryz.ntmps98
    go_wp2
    go_ret
    exact ⟨by rw [H.out]; rfl, rfl⟩
theorem flag_any (b : Bool) (n : Nat) (hn : n < 64) (w : World) : Calls Tryz.prog 78 #[.bool b, .int .i64 n] w fun e w' => e = .returned (.int .u64 (flagD b n : Nat)) ∧ w = w' := by
  cases b
  · go_enter Tryz.func78, Tryz.ntmps78
    go_wp2
    go_ret
    exact ⟨rfl, rfl⟩
  · have h0 : (0 : Int) ≤ n := by omega
    have h1 : (n : Int) < 64 := by omega
    have H := Lib.hid (show IntKind.u64.wrap (2 ^ n) = ((2 ^ n : Nat) : Int) from by
      have h2 : 2 ^ n < 18446744073709551616 := by
        have : (2 : Nat) ^ n < 2 ^ 64 := Nat.pow_lt_pow_right (by decide) hn
        simpa using this
      rw [show ((2 : Int) ^ n) = ((2 ^ n : Nat) : Int) by simp]; exact wrapN _ h2)
    go_enter Tryz.func78, Tryz.ntmps78
    go_wp2
    go_ret
    exact ⟨by rw [H.out]; rfl, rfl⟩
/-- A descriptor that may be valid. -/
def checkN (out : Nat) (t : Bool) (l : Nat) : Int := if out < 4294967296 ∧ out % 2 ^ shiftD t l = 0 then 0 else 70
abbrev descV (table : Bool) (out : Nat) (used ro user own : Bool) : Value := .agg #[.bool true, .bool table, .int .u64 out, .bool used, .bool ro, .bool user, .bool own]
theorem enc_yes {table : Bool} {out level : Nat} (used ro user own : Bool) (h : out < 4294967296) (ha : out % 2 ^ shiftD table level = 0) : encD table out used ro user own level = ((out ||| 1 ||| flagD (table || decide (level = 2)) 1) ||| (((flagD used 10 ||| flagD ro 7) ||| flagD user 6) ||| flagD own 11), 0) := by
  unfold encD; rw [if_neg (by omega)]
theorem enc_no {table : Bool} {out level : Nat} (used ro user own : Bool) (h : ¬ (out < 4294967296 ∧ out % 2 ^ shiftD table level = 0)) : encD table out used ro user own level = (0, 70) := by
  unfold encD; rw [if_pos (by omega)]
theorem flag_lt (b : Bool) (n : Nat) (hn : n < 64) : flagD b n < 18446744073709551616 := by
  unfold flagD; split
  · have : (2 : Nat) ^ n < 2 ^ 64 := Nat.pow_lt_pow_right (by decide) hn
    simpa using this
  · decide
theorem or64 (x y : Nat) (hx : x < 18446744073709551616) (hy : y < 18446744073709551616) : x ||| y < 18446744073709551616 := Nat.or_lt_two_pow (n := 64) hx hy
set_option maxRecDepth 100000 in
set_option maxHeartbeats 1600000 in
theorem check_t1 (out : Nat) (w : World) (ho : out < 18446744073709551616) :
    Calls Tryz.prog 77 #[descV true out false false false false, .int .i64 1] w fun e w' => e = .returned (.int .i64 (checkN out true 1)) ∧ Below w.heap.size w w' := by
  have HB := Lib.hid (below_alloc (Below.refl w.heap.size w) (.cells #[.bool true, .bool true, .int .u64 out, .bool false, .bool false, .bool false, .bool false] 112))
  have HAL := Lib.hid (fun w1 => aligned_any (out : Int) (shiftD true 1 : Nat) w1 (by omega))
  have HE := Lib.hid (show alignedB (out : Int) (shiftD true 1 : Nat) = decide (out % 2 ^ shiftD true 1 = 0) by unfold alignedB; rw [Int.toNat_natCast, Int.toNat_natCast])
  have hsh : shiftD true 1 = 12 := by decide
  have HCK := Lib.hid (show checkN out true 1 = if out < 4294967296 ∧ out % 2 ^ shiftD true 1 = 0 then 0 else 70 from rfl)
  by_cases h1 : out < 4294967296
  · have h1i : decide ((4294967296 : Int) ≤ (out : Int)) = false := decide_eq_false (by omega)
    cases h2 : decide (out % 2 ^ shiftD true 1 = 0)
    · have HN := Lib.hid (show checkN out true 1 = 70 by rw [HCK.out, if_neg (fun h => (of_decide_eq_false h2) h.2)])
      rw [h2] at HE
      rw [HE.out] at HAL
      simp only [hsh] at HAL
      clear h2 HE hsh
      go_enter Tryz.func77, Tryz.ntmps77
      go_wp2_with fail
      go_quiet ((first | (go_at_call 98; exact (shift_any true 1 _).mono (fun e w' h => ⟨h.1, _, h.2.symm⟩)) | (go_at_call 97; exact quiet_of (HAL.out _))))
      go_wp2_with fail
      go_ret
      exact ⟨ret_int (by rw [HN.out]), below_drewN HB.out _⟩
    · have HN := Lib.hid (show checkN out true 1 = 0 by rw [HCK.out, if_pos ⟨h1, of_decide_eq_true h2⟩])
      rw [h2] at HE
      rw [HE.out] at HAL
      simp only [hsh] at HAL
      clear h2 HE hsh
      go_enter Tryz.func77, Tryz.ntmps77
      go_wp2_with fail
      go_quiet ((first | (go_at_call 98; exact (shift_any true 1 _).mono (fun e w' h => ⟨h.1, _, h.2.symm⟩)) | (go_at_call 97; exact quiet_of (HAL.out _))))
      go_wp2_with fail
      go_ret
      exact ⟨ret_int (by rw [HN.out]), below_drewN HB.out _⟩
  · have h1i : decide ((4294967296 : Int) ≤ (out : Int)) = true := decide_eq_true (by omega)
    clear HE hsh
    go_enter Tryz.func77, Tryz.ntmps77
    go_wp2_with fail
    go_quiet ((first | (go_at_call 98; exact (shift_any true 1 _).mono (fun e w' h => ⟨h.1, _, h.2.symm⟩)) | (go_at_call 97; exact quiet_of (HAL.out _))))
    go_wp2_with fail
    go_ret
    exact ⟨ret_int (by rw [HCK.out, if_neg (fun h => h1 h.1)]), below_drewN HB.out _⟩
set_option maxRecDepth 100000 in
set_option maxHeartbeats 1600000 in
theorem check_b1 (out : Nat) (used ro user own : Bool) (w : World) (ho : out < 18446744073709551616) :
    Calls Tryz.prog 77 #[descV false out used ro user own, .int .i64 1] w fun e w' => e = .returned (.int .i64 (checkN out false 1)) ∧ Below w.heap.size w w' := by
  have HB := Lib.hid (below_alloc (Below.refl w.heap.size w) (.cells #[.bool true, .bool false, .int .u64 out, .bool used, .bool ro, .bool user, .bool own] 112))
  have HAL := Lib.hid (fun w1 => aligned_any (out : Int) (shiftD false 1 : Nat) w1 (by omega))
  have HE := Lib.hid (show alignedB (out : Int) (shiftD false 1 : Nat) = decide (out % 2 ^ shiftD false 1 = 0) by unfold alignedB; rw [Int.toNat_natCast, Int.toNat_natCast])
  have hsh : shiftD false 1 = 21 := by decide
  have HCK := Lib.hid (show checkN out false 1 = if out < 4294967296 ∧ out % 2 ^ shiftD false 1 = 0 then 0 else 70 from rfl)
  by_cases h1 : out < 4294967296
  · have h1i : decide ((4294967296 : Int) ≤ (out : Int)) = false := decide_eq_false (by omega)
    cases h2 : decide (out % 2 ^ shiftD false 1 = 0)
    · have HN := Lib.hid (show checkN out false 1 = 70 by rw [HCK.out, if_neg (fun h => (of_decide_eq_false h2) h.2)])
      rw [h2] at HE
      rw [HE.out] at HAL
      simp only [hsh] at HAL
      clear h2 HE hsh
      go_enter Tryz.func77, Tryz.ntmps77
      go_wp2_with fail
      go_quiet ((first | (go_at_call 98; exact (shift_any false 1 _).mono (fun e w' h => ⟨h.1, _, h.2.symm⟩)) | (go_at_call 97; exact quiet_of (HAL.out _))))
      go_wp2_with fail
      go_ret
      exact ⟨ret_int (by rw [HN.out]), below_drewN HB.out _⟩
    · have HN := Lib.hid (show checkN out false 1 = 0 by rw [HCK.out, if_pos ⟨h1, of_decide_eq_true h2⟩])
      rw [h2] at HE
      rw [HE.out] at HAL
      simp only [hsh] at HAL
      clear h2 HE hsh
      go_enter Tryz.func77, Tryz.ntmps77
      go_wp2_with fail
      go_quiet ((first | (go_at_call 98; exact (shift_any false 1 _).mono (fun e w' h => ⟨h.1, _, h.2.symm⟩)) | (go_at_call 97; exact quiet_of (HAL.out _))))
      go_wp2_with fail
      go_ret
      exact ⟨ret_int (by rw [HN.out]), below_drewN HB.out _⟩
  · have h1i : decide ((4294967296 : Int) ≤ (out : Int)) = true := decide_eq_true (by omega)
    clear HE hsh
    go_enter Tryz.func77, Tryz.ntmps77
    go_wp2_with fail
    go_quiet ((first | (go_at_call 98; exact (shift_any false 1 _).mono (fun e w' h => ⟨h.1, _, h.2.symm⟩)) | (go_at_call 97; exact quiet_of (HAL.out _))))
    go_wp2_with fail
    go_ret
    exact ⟨ret_int (by rw [HCK.out, if_neg (fun h => h1 h.1)]), below_drewN HB.out _⟩
set_option maxRecDepth 100000 in
set_option maxHeartbeats 1600000 in
theorem check_p2 (out : Nat) (used ro user own : Bool) (w : World) (ho : out < 18446744073709551616) :
    Calls Tryz.prog 77 #[descV false out used ro user own, .int .i64 2] w fun e w' => e = .returned (.int .i64 (checkN out false 2)) ∧ Below w.heap.size w w' := by
  have HB := Lib.hid (below_alloc (Below.refl w.heap.size w) (.cells #[.bool true, .bool false, .int .u64 out, .bool used, .bool ro, .bool user, .bool own] 112))
  have HAL := Lib.hid (fun w1 => aligned_any (out : Int) (shiftD false 2 : Nat) w1 (by omega))
  have HE := Lib.hid (show alignedB (out : Int) (shiftD false 2 : Nat) = decide (out % 2 ^ shiftD false 2 = 0) by unfold alignedB; rw [Int.toNat_natCast, Int.toNat_natCast])
  have hsh : shiftD false 2 = 12 := by decide
  have HCK := Lib.hid (show checkN out false 2 = if out < 4294967296 ∧ out % 2 ^ shiftD false 2 = 0 then 0 else 70 from rfl)
  by_cases h1 : out < 4294967296
  · have h1i : decide ((4294967296 : Int) ≤ (out : Int)) = false := decide_eq_false (by omega)
    cases h2 : decide (out % 2 ^ shiftD false 2 = 0)
    · have HN := Lib.hid (show checkN out false 2 = 70 by rw [HCK.out, if_neg (fun h => (of_decide_eq_false h2) h.2)])
      rw [h2] at HE
      rw [HE.out] at HAL
      simp only [hsh] at HAL
      clear h2 HE hsh
      go_enter Tryz.func77, Tryz.ntmps77
      go_wp2_with fail
      go_quiet ((first | (go_at_call 98; exact (shift_any false 2 _).mono (fun e w' h => ⟨h.1, _, h.2.symm⟩)) | (go_at_call 97; exact quiet_of (HAL.out _))))
      go_wp2_with fail
      go_ret
      exact ⟨ret_int (by rw [HN.out]), below_drewN HB.out _⟩
    · have HN := Lib.hid (show checkN out false 2 = 0 by rw [HCK.out, if_pos ⟨h1, of_decide_eq_true h2⟩])
      rw [h2] at HE
      rw [HE.out] at HAL
      simp only [hsh] at HAL
      clear h2 HE hsh
      go_enter Tryz.func77, Tryz.ntmps77
      go_wp2_with fail
      go_quiet ((first | (go_at_call 98; exact (shift_any false 2 _).mono (fun e w' h => ⟨h.1, _, h.2.symm⟩)) | (go_at_call 97; exact quiet_of (HAL.out _))))
      go_wp2_with fail
      go_ret
      exact ⟨ret_int (by rw [HN.out]), below_drewN HB.out _⟩
  · have h1i : decide ((4294967296 : Int) ≤ (out : Int)) = true := decide_eq_true (by omega)
    clear HE hsh
    go_enter Tryz.func77, Tryz.ntmps77
    go_wp2_with fail
    go_quiet ((first | (go_at_call 98; exact (shift_any false 2 _).mono (fun e w' h => ⟨h.1, _, h.2.symm⟩)) | (go_at_call 97; exact quiet_of (HAL.out _))))
    go_wp2_with fail
    go_ret
    exact ⟨ret_int (by rw [HCK.out, if_neg (fun h => h1 h.1)]), below_drewN HB.out _⟩
set_option maxRecDepth 100000 in
set_option maxHeartbeats 1600000 in
theorem enc_t1 (out : Nat) (w : World) (ho : out < 18446744073709551616) :
    Calls Tryz.prog 57 #[descV true out false false false false, .int .i64 1] w fun e w' => e = .returned (.tuple #[.int .u64 (encD true out false false false false 1).1, .int .i64 (encD true out false false false false 1).2]) ∧ Below w.heap.size w w' := by
  have HB := Lib.hid (below_alloc (Below.refl w.heap.size w) (.cells #[.bool true, .bool true, .int .u64 out, .bool false, .bool false, .bool false, .bool false] 112))
  have HX := Lib.hid (show Blk (w.alloc (.cells #[.bool true, .bool true, .int .u64 out, .bool false, .bool false, .bool false, .bool false] 112)) 112 w.heap.size [.bool true, .bool true, .int .u64 out, .bool false, .bool false, .bool false, .bool false] from Blk.new w _ _)
  have HC := Lib.hid (fun w1 => check_t1 out  w1 ho)
  by_cases hk : out < 4294967296 ∧ out % 2 ^ shiftD true 1 = 0
  · have HE := Lib.hid (enc_yes (table := true) (level := 1) false false false false hk.1 hk.2)
    rw [show checkN out true 1 = 0 from if_pos hk] at HC
    have f1 := flag_lt (true || decide (1 = 2)) 1 (by decide)
    have f2 := flag_lt false 10 (by decide)
    have f3 := flag_lt false 7 (by decide)
    have f4 := flag_lt false 6 (by decide)
    have f5 := flag_lt false 11 (by decide)
    have g1 := or64 _ _ ho (show 1 < 18446744073709551616 by decide)
    have g2 := or64 _ _ g1 f1
    have g3 := or64 _ _ f2 f3
    have g4 := or64 _ _ g3 f4
    have g5 := or64 _ _ g4 f5
    have o1 : bits BinOp.or IntKind.u64 (out : Int) 1 = ((out ||| 1 : Nat) : Int) := bits_or_u64_nat out 1 ho (by decide)
    have o2 := bits_or_u64_nat _ _ g1 f1
    have o3 := bits_or_u64_nat _ _ f2 f3
    have o4 := bits_or_u64_nat _ _ g3 f4
    have o5 := bits_or_u64_nat _ _ g4 f5
    have o6 := bits_or_u64_nat _ _ g2 g5
    clear hk f1 f2 f3 f4 f5 g1 g2 g3 g4 g5
    have HF1 := Lib.hid (fun w1 => flag_any (true || decide (1 = 2)) 1 (by decide) w1)
    generalize flagD (true || decide (1 = 2)) 1 = F1 at *
    go_enter Tryz.func57, Tryz.ntmps57
    go_wp2_with fail
    refine (HC.out _).mono ?_
    rintro e w2 ⟨rfl, hb⟩
    have HB2 := Lib.hid (below_trans HB.out hb)
    have HX2 := Lib.hid (HX.out.below hb)
    have hl2 := HX2.out.lt
    have c0 := HX2.out.cell 0
    have c1 := HX2.out.cell 1
    have c2 := HX2.out.cell 2
    have c3 := HX2.out.cell 3
    have c4 := HX2.out.cell 4
    have c5 := HX2.out.cell 5
    have c6 := HX2.out.cell 6
    simp only [List.getElem?_cons_zero, List.getElem?_cons_succ] at c0 c1 c2 c3 c4 c5 c6
    clear hb HX HB
    go_wp2_with fail
    refine (HF1.out _).mono ?_
    rintro e w3 ⟨rfl, rfl⟩
    go_wp2_with fail
    go_quiet ((first | (go_at_call 78; exact (flag_any false 10 (by decide) _).mono (fun e w' h => ⟨h.1, _, h.2.symm⟩)) | (go_at_call 78; exact (flag_any false 7 (by decide) _).mono (fun e w' h => ⟨h.1, _, h.2.symm⟩)) | (go_at_call 78; exact (flag_any false 6 (by decide) _).mono (fun e w' h => ⟨h.1, _, h.2.symm⟩)) | (go_at_call 78; exact (flag_any false 11 (by decide) _).mono (fun e w' h => ⟨h.1, _, h.2.symm⟩))))
    go_wp2_with fail
    go_ret2
    exact ⟨by rw [HE.out]; rfl, below_drewN HB2.out _⟩
  · have HE := Lib.hid (enc_no (table := true) (level := 1) false false false false hk)
    rw [show checkN out true 1 = 70 from if_neg hk] at HC
    clear hk
    go_enter Tryz.func57, Tryz.ntmps57
    go_wp2_with fail
    refine (HC.out _).mono ?_
    rintro e w2 ⟨rfl, hb⟩
    have HB2 := Lib.hid (below_trans HB.out hb)
    clear hb
    go_wp2_with fail
    go_ret2
    exact ⟨by rw [HE.out]; rfl, HB2.out⟩
set_option maxRecDepth 100000 in
set_option maxHeartbeats 1600000 in
theorem enc_b1 (out : Nat) (used ro user own : Bool) (w : World) (ho : out < 18446744073709551616) :
    Calls Tryz.prog 57 #[descV false out used ro user own, .int .i64 1] w fun e w' => e = .returned (.tuple #[.int .u64 (encD false out used ro user own 1).1, .int .i64 (encD false out used ro user own 1).2]) ∧ Below w.heap.size w w' := by
  have HB := Lib.hid (below_alloc (Below.refl w.heap.size w) (.cells #[.bool true, .bool false, .int .u64 out, .bool used, .bool ro, .bool user, .bool own] 112))
  have HX := Lib.hid (show Blk (w.alloc (.cells #[.bool true, .bool false, .int .u64 out, .bool used, .bool ro, .bool user, .bool own] 112)) 112 w.heap.size [.bool true, .bool false, .int .u64 out, .bool used, .bool ro, .bool user, .bool own] from Blk.new w _ _)
  have HC := Lib.hid (fun w1 => check_b1 out used ro user own w1 ho)
  by_cases hk : out < 4294967296 ∧ out % 2 ^ shiftD false 1 = 0
  · have HE := Lib.hid (enc_yes (table := false) (level := 1) used ro user own hk.1 hk.2)
    rw [show checkN out false 1 = 0 from if_pos hk] at HC
    have f1 := flag_lt (false || decide (1 = 2)) 1 (by decide)
    have f2 := flag_lt used 10 (by decide)
    have f3 := flag_lt ro 7 (by decide)
    have f4 := flag_lt user 6 (by decide)
    have f5 := flag_lt own 11 (by decide)
    have g1 := or64 _ _ ho (show 1 < 18446744073709551616 by decide)
    have g2 := or64 _ _ g1 f1
    have g3 := or64 _ _ f2 f3
    have g4 := or64 _ _ g3 f4
    have g5 := or64 _ _ g4 f5
    have o1 : bits BinOp.or IntKind.u64 (out : Int) 1 = ((out ||| 1 : Nat) : Int) := bits_or_u64_nat out 1 ho (by decide)
    have o2 := bits_or_u64_nat _ _ g1 f1
    have o3 := bits_or_u64_nat _ _ f2 f3
    have o4 := bits_or_u64_nat _ _ g3 f4
    have o5 := bits_or_u64_nat _ _ g4 f5
    have o6 := bits_or_u64_nat _ _ g2 g5
    clear hk f1 f2 f3 f4 f5 g1 g2 g3 g4 g5
    have HF1 := Lib.hid (fun w1 => flag_any (false || decide (1 = 2)) 1 (by decide) w1)
    generalize flagD (false || decide (1 = 2)) 1 = F1 at *
    go_enter Tryz.func57, Tryz.ntmps57
    go_wp2_with fail
    refine (HC.out _).mono ?_
    rintro e w2 ⟨rfl, hb⟩
    have HB2 := Lib.hid (below_trans HB.out hb)
    have HX2 := Lib.hid (HX.out.below hb)
    have hl2 := HX2.out.lt
    have c0 := HX2.out.cell 0
    have c1 := HX2.out.cell 1
    have c2 := HX2.out.cell 2
    have c3 := HX2.out.cell 3
    have c4 := HX2.out.cell 4
    have c5 := HX2.out.cell 5
    have c6 := HX2.out.cell 6
    simp only [List.getElem?_cons_zero, List.getElem?_cons_succ] at c0 c1 c2 c3 c4 c5 c6
    clear hb HX HB
    go_wp2_with fail
    refine (HF1.out _).mono ?_
    rintro e w3 ⟨rfl, rfl⟩
    go_wp2_with fail
    go_quiet ((first | (go_at_call 78; exact (flag_any used 10 (by decide) _).mono (fun e w' h => ⟨h.1, _, h.2.symm⟩)) | (go_at_call 78; exact (flag_any ro 7 (by decide) _).mono (fun e w' h => ⟨h.1, _, h.2.symm⟩)) | (go_at_call 78; exact (flag_any user 6 (by decide) _).mono (fun e w' h => ⟨h.1, _, h.2.symm⟩)) | (go_at_call 78; exact (flag_any own 11 (by decide) _).mono (fun e w' h => ⟨h.1, _, h.2.symm⟩))))
    go_wp2_with fail
    go_ret2
    exact ⟨by rw [HE.out]; rfl, below_drewN HB2.out _⟩
  · have HE := Lib.hid (enc_no (table := false) (level := 1) used ro user own hk)
    rw [show checkN out false 1 = 70 from if_neg hk] at HC
    clear hk
    go_enter Tryz.func57, Tryz.ntmps57
    go_wp2_with fail
    refine (HC.out _).mono ?_
    rintro e w2 ⟨rfl, hb⟩
    have HB2 := Lib.hid (below_trans HB.out hb)
    clear hb
    go_wp2_with fail
    go_ret2
    exact ⟨by rw [HE.out]; rfl, HB2.out⟩
set_option maxRecDepth 100000 in
set_option maxHeartbeats 1600000 in
theorem enc_p2 (out : Nat) (used ro user own : Bool) (w : World) (ho : out < 18446744073709551616) :
    Calls Tryz.prog 57 #[descV false out used ro user own, .int .i64 2] w fun e w' => e = .returned (.tuple #[.int .u64 (encD false out used ro user own 2).1, .int .i64 (encD false out used ro user own 2).2]) ∧ Below w.heap.size w w' := by
  have HB := Lib.hid (below_alloc (Below.refl w.heap.size w) (.cells #[.bool true, .bool false, .int .u64 out, .bool used, .bool ro, .bool user, .bool own] 112))
  have HX := Lib.hid (show Blk (w.alloc (.cells #[.bool true, .bool false, .int .u64 out, .bool used, .bool ro, .bool user, .bool own] 112)) 112 w.heap.size [.bool true, .bool false, .int .u64 out, .bool used, .bool ro, .bool user, .bool own] from Blk.new w _ _)
  have HC := Lib.hid (fun w1 => check_p2 out used ro user own w1 ho)
  by_cases hk : out < 4294967296 ∧ out % 2 ^ shiftD false 2 = 0
  · have HE := Lib.hid (enc_yes (table := false) (level := 2) used ro user own hk.1 hk.2)
    rw [show checkN out false 2 = 0 from if_pos hk] at HC
    have f1 := flag_lt (false || decide (2 = 2)) 1 (by decide)
    have f2 := flag_lt used 10 (by decide)
    have f3 := flag_lt ro 7 (by decide)
    have f4 := flag_lt user 6 (by decide)
    have f5 := flag_lt own 11 (by decide)
    have g1 := or64 _ _ ho (show 1 < 18446744073709551616 by decide)
    have g2 := or64 _ _ g1 f1
    have g3 := or64 _ _ f2 f3
    have g4 := or64 _ _ g3 f4
    have g5 := or64 _ _ g4 f5
    have o1 : bits BinOp.or IntKind.u64 (out : Int) 1 = ((out ||| 1 : Nat) : Int) := bits_or_u64_nat out 1 ho (by decide)
    have o2 := bits_or_u64_nat _ _ g1 f1
    have o3 := bits_or_u64_nat _ _ f2 f3
    have o4 := bits_or_u64_nat _ _ g3 f4
    have o5 := bits_or_u64_nat _ _ g4 f5
    have o6 := bits_or_u64_nat _ _ g2 g5
    clear hk f1 f2 f3 f4 f5 g1 g2 g3 g4 g5
    have HF1 := Lib.hid (fun w1 => flag_any (false || decide (2 = 2)) 1 (by decide) w1)
    generalize flagD (false || decide (2 = 2)) 1 = F1 at *
    go_enter Tryz.func57, Tryz.ntmps57
    go_wp2_with fail
    refine (HC.out _).mono ?_
    rintro e w2 ⟨rfl, hb⟩
    have HB2 := Lib.hid (below_trans HB.out hb)
    have HX2 := Lib.hid (HX.out.below hb)
    have hl2 := HX2.out.lt
    have c0 := HX2.out.cell 0
    have c1 := HX2.out.cell 1
    have c2 := HX2.out.cell 2
    have c3 := HX2.out.cell 3
    have c4 := HX2.out.cell 4
    have c5 := HX2.out.cell 5
    have c6 := HX2.out.cell 6
    simp only [List.getElem?_cons_zero, List.getElem?_cons_succ] at c0 c1 c2 c3 c4 c5 c6
    clear hb HX HB
    go_wp2_with fail
    refine (HF1.out _).mono ?_
    rintro e w3 ⟨rfl, rfl⟩
    go_wp2_with fail
    go_quiet ((first | (go_at_call 78; exact (flag_any used 10 (by decide) _).mono (fun e w' h => ⟨h.1, _, h.2.symm⟩)) | (go_at_call 78; exact (flag_any ro 7 (by decide) _).mono (fun e w' h => ⟨h.1, _, h.2.symm⟩)) | (go_at_call 78; exact (flag_any user 6 (by decide) _).mono (fun e w' h => ⟨h.1, _, h.2.symm⟩)) | (go_at_call 78; exact (flag_any own 11 (by decide) _).mono (fun e w' h => ⟨h.1, _, h.2.symm⟩))))
    go_wp2_with fail
    go_ret2
    exact ⟨by rw [HE.out]; rfl, below_drewN HB2.out _⟩
  · have HE := Lib.hid (enc_no (table := false) (level := 2) used ro user own hk)
    rw [show checkN out false 2 = 70 from if_neg hk] at HC
    clear hk
    go_enter Tryz.func57, Tryz.ntmps57
    go_wp2_with fail
    refine (HC.out _).mono ?_
    rintro e w2 ⟨rfl, hb⟩
    have HB2 := Lib.hid (below_trans HB.out hb)
    clear hb
    go_wp2_with fail
    go_ret2
    exact ⟨by rw [HE.out]; rfl, HB2.out⟩
end Go.Proofs.YtcaifejfkpmeeaaGreat
