/- asm.Print: an instruction's text. -/
import Derived.Test.YtlhkjjfdmglabaaAsmNames
import Derived.Deep.RegionHeld
import Derived.Deep.DeepCutAuto
namespace Go.Proofs.Ytlhkjjfdmglabaa
open Go.RowKit
set_option linter.unusedVariables false
set_option linter.unusedSimpArgs false

theorem cat_bb {P : Program} (a b c : List UInt8) (h : c = a ++ b) (hl : a.length + b.length ≤ 1000000) (w : World) : (Op.stringOp .add (ba a) (ba b)).run P w = .ok (.string (ba c)) w := by
  rw [h]; exact cat_ba a b hl w
theorem regL_len (n : Int) (h : I64 n) : (regL n).length ≤ 66 := by
  have := intL_len n h
  unfold regL
  split
  · decide
  · split
    · simp; omega
    · simp
set_option maxRecDepth 100000 in
set_option maxHeartbeats 1600000 in
theorem rest_17a (d : Int) (n m imm : Int) (w : World) (hi : I64 imm)  (D N M : List UInt8) (hD : D.length ≤ 66) (hN : N.length ≤ 66) (hM : M.length ≤ 66) (R : List UInt8) (hR : R = [66, 46, 69, 81, 32] ++ targetL imm) :
    Calls Try.prog 22 #[instrW 17 d n m imm 0, .string (ba D), .string (ba N), .string (ba M)] w fun e w' => e = .returned (.string (ba R)) ∧ Below w.heap.size w w' := by
  have HB := Lib.hid (below_alloc (Below.refl w.heap.size w) (.cells #[.int .i64 17, .int .i64 d, .int .i64 n, .int .i64 m, .int .i64 imm, .int .i64 0] 23))
  have HT := Lib.hid (fun w1 : World => target_any imm w1 hi)
  have b1 := intL_len imm hi
  have bT : (targetL imm).length ≤ 67 := by unfold targetL; split <;> (simp; omega)
  generalize targetL imm = TG at *
  obtain ⟨A1, hA1⟩ : ∃ A : List UInt8, A = [66, 46, 69, 81, 32] ++ TG := ⟨_, rfl⟩
  have hcat1 : ∀ wx : World, (Op.stringOp .add ({ data := #[66, 46, 69, 81, 32] } : ByteArray) (ba TG)).run Try.prog wx = .ok (.string (ba A1)) wx := cat_bb (P := Try.prog) _ _ A1 hA1 (by simp; omega)
  have HX := Lib.hid (show R = A1 by rw [hR, hA1] <;> simp)
  clear hR hA1
  go_enter Try.func22, Try.ntmps22
  go_wp2_with fail
  refine (HT.out _).mono ?_
  rintro e w' ⟨rfl, m', rfl⟩
  go_wp2_with fail
  go_ret
  exact ⟨by rw [HX.out]; rfl, below_drewN HB.out _⟩
set_option maxRecDepth 100000 in
set_option maxHeartbeats 1600000 in
theorem rest_17b (d : Int) (n m imm : Int) (w : World) (hi : I64 imm)  (D N M : List UInt8) (hD : D.length ≤ 66) (hN : N.length ≤ 66) (hM : M.length ≤ 66) (R : List UInt8) (hR : R = [66, 46, 78, 69, 32] ++ targetL imm) :
    Calls Try.prog 22 #[instrW 17 d n m imm 1, .string (ba D), .string (ba N), .string (ba M)] w fun e w' => e = .returned (.string (ba R)) ∧ Below w.heap.size w w' := by
  have HB := Lib.hid (below_alloc (Below.refl w.heap.size w) (.cells #[.int .i64 17, .int .i64 d, .int .i64 n, .int .i64 m, .int .i64 imm, .int .i64 1] 23))
  have HT := Lib.hid (fun w1 : World => target_any imm w1 hi)
  have b1 := intL_len imm hi
  have bT : (targetL imm).length ≤ 67 := by unfold targetL; split <;> (simp; omega)
  generalize targetL imm = TG at *
  obtain ⟨A1, hA1⟩ : ∃ A : List UInt8, A = [66, 46, 78, 69, 32] ++ TG := ⟨_, rfl⟩
  have hcat1 : ∀ wx : World, (Op.stringOp .add ({ data := #[66, 46, 78, 69, 32] } : ByteArray) (ba TG)).run Try.prog wx = .ok (.string (ba A1)) wx := cat_bb (P := Try.prog) _ _ A1 hA1 (by simp; omega)
  have HX := Lib.hid (show R = A1 by rw [hR, hA1] <;> simp)
  clear hR hA1
  go_enter Try.func22, Try.ntmps22
  go_wp2_with fail
  refine (HT.out _).mono ?_
  rintro e w' ⟨rfl, m', rfl⟩
  go_wp2_with fail
  go_ret
  exact ⟨by rw [HX.out]; rfl, below_drewN HB.out _⟩
set_option maxRecDepth 100000 in
set_option maxHeartbeats 1600000 in
theorem rest_18_15 (d : Int) (n m imm : Int) (w : World) (hi : I64 imm)  (D N M : List UInt8) (hD : D.length ≤ 66) (hN : N.length ≤ 66) (hM : M.length ≤ 66) (R : List UInt8) (hR : R = ([68, 77, 66, 32, 83, 89] : List UInt8)) :
    Calls Try.prog 22 #[instrW 18 d n m imm 15, .string (ba D), .string (ba N), .string (ba M)] w fun e w' => e = .returned (.string (ba R)) ∧ Below w.heap.size w w' := by
  have HB := Lib.hid (below_alloc (Below.refl w.heap.size w) (.cells #[.int .i64 18, .int .i64 d, .int .i64 n, .int .i64 m, .int .i64 imm, .int .i64 15] 23))
  have HT := Lib.hid (fun w1 : World => target_any imm w1 hi)
  have b1 := intL_len imm hi
  have bT : (targetL imm).length ≤ 67 := by unfold targetL; split <;> (simp; omega)
  generalize targetL imm = TG at *
  have HX := Lib.hid hR
  clear hR
  go_enter Try.func22, Try.ntmps22
  go_wp2_with fail
  refine (abar_15 _).mono ?_
  rintro e w' ⟨rfl, rfl⟩
  go_wp2_with fail
  go_ret
  exact ⟨by rw [HX.out]; rfl, HB.out⟩
set_option maxRecDepth 100000 in
set_option maxHeartbeats 1600000 in
theorem rest_18_13 (d : Int) (n m imm : Int) (w : World) (hi : I64 imm)  (D N M : List UInt8) (hD : D.length ≤ 66) (hN : N.length ≤ 66) (hM : M.length ≤ 66) (R : List UInt8) (hR : R = ([68, 77, 66, 32, 76, 68] : List UInt8)) :
    Calls Try.prog 22 #[instrW 18 d n m imm 13, .string (ba D), .string (ba N), .string (ba M)] w fun e w' => e = .returned (.string (ba R)) ∧ Below w.heap.size w w' := by
  have HB := Lib.hid (below_alloc (Below.refl w.heap.size w) (.cells #[.int .i64 18, .int .i64 d, .int .i64 n, .int .i64 m, .int .i64 imm, .int .i64 13] 23))
  have HT := Lib.hid (fun w1 : World => target_any imm w1 hi)
  have b1 := intL_len imm hi
  have bT : (targetL imm).length ≤ 67 := by unfold targetL; split <;> (simp; omega)
  generalize targetL imm = TG at *
  have HX := Lib.hid hR
  clear hR
  go_enter Try.func22, Try.ntmps22
  go_wp2_with fail
  refine (abar_13 _).mono ?_
  rintro e w' ⟨rfl, rfl⟩
  go_wp2_with fail
  go_ret
  exact ⟨by rw [HX.out]; rfl, HB.out⟩
set_option maxRecDepth 100000 in
set_option maxHeartbeats 1600000 in
theorem rest_18_14 (d : Int) (n m imm : Int) (w : World) (hi : I64 imm)  (D N M : List UInt8) (hD : D.length ≤ 66) (hN : N.length ≤ 66) (hM : M.length ≤ 66) (R : List UInt8) (hR : R = ([68, 77, 66, 32, 83, 84] : List UInt8)) :
    Calls Try.prog 22 #[instrW 18 d n m imm 14, .string (ba D), .string (ba N), .string (ba M)] w fun e w' => e = .returned (.string (ba R)) ∧ Below w.heap.size w w' := by
  have HB := Lib.hid (below_alloc (Below.refl w.heap.size w) (.cells #[.int .i64 18, .int .i64 d, .int .i64 n, .int .i64 m, .int .i64 imm, .int .i64 14] 23))
  have HT := Lib.hid (fun w1 : World => target_any imm w1 hi)
  have b1 := intL_len imm hi
  have bT : (targetL imm).length ≤ 67 := by unfold targetL; split <;> (simp; omega)
  generalize targetL imm = TG at *
  have HX := Lib.hid hR
  clear hR
  go_enter Try.func22, Try.ntmps22
  go_wp2_with fail
  refine (abar_14 _).mono ?_
  rintro e w' ⟨rfl, rfl⟩
  go_wp2_with fail
  go_ret
  exact ⟨by rw [HX.out]; rfl, HB.out⟩
set_option maxRecDepth 100000 in
set_option maxHeartbeats 1600000 in
theorem rest_18_11 (d : Int) (n m imm : Int) (w : World) (hi : I64 imm)  (D N M : List UInt8) (hD : D.length ≤ 66) (hN : N.length ≤ 66) (hM : M.length ≤ 66) (R : List UInt8) (hR : R = ([68, 77, 66, 32, 73, 83, 72] : List UInt8)) :
    Calls Try.prog 22 #[instrW 18 d n m imm 11, .string (ba D), .string (ba N), .string (ba M)] w fun e w' => e = .returned (.string (ba R)) ∧ Below w.heap.size w w' := by
  have HB := Lib.hid (below_alloc (Below.refl w.heap.size w) (.cells #[.int .i64 18, .int .i64 d, .int .i64 n, .int .i64 m, .int .i64 imm, .int .i64 11] 23))
  have HT := Lib.hid (fun w1 : World => target_any imm w1 hi)
  have b1 := intL_len imm hi
  have bT : (targetL imm).length ≤ 67 := by unfold targetL; split <;> (simp; omega)
  generalize targetL imm = TG at *
  have HX := Lib.hid hR
  clear hR
  go_enter Try.func22, Try.ntmps22
  go_wp2_with fail
  refine (abar_11 _).mono ?_
  rintro e w' ⟨rfl, rfl⟩
  go_wp2_with fail
  go_ret
  exact ⟨by rw [HX.out]; rfl, HB.out⟩
set_option maxRecDepth 100000 in
set_option maxHeartbeats 1600000 in
theorem rest_18_9 (d : Int) (n m imm : Int) (w : World) (hi : I64 imm)  (D N M : List UInt8) (hD : D.length ≤ 66) (hN : N.length ≤ 66) (hM : M.length ≤ 66) (R : List UInt8) (hR : R = ([68, 77, 66, 32, 73, 83, 72, 76, 68] : List UInt8)) :
    Calls Try.prog 22 #[instrW 18 d n m imm 9, .string (ba D), .string (ba N), .string (ba M)] w fun e w' => e = .returned (.string (ba R)) ∧ Below w.heap.size w w' := by
  have HB := Lib.hid (below_alloc (Below.refl w.heap.size w) (.cells #[.int .i64 18, .int .i64 d, .int .i64 n, .int .i64 m, .int .i64 imm, .int .i64 9] 23))
  have HT := Lib.hid (fun w1 : World => target_any imm w1 hi)
  have b1 := intL_len imm hi
  have bT : (targetL imm).length ≤ 67 := by unfold targetL; split <;> (simp; omega)
  generalize targetL imm = TG at *
  have HX := Lib.hid hR
  clear hR
  go_enter Try.func22, Try.ntmps22
  go_wp2_with fail
  refine (abar_9 _).mono ?_
  rintro e w' ⟨rfl, rfl⟩
  go_wp2_with fail
  go_ret
  exact ⟨by rw [HX.out]; rfl, HB.out⟩
set_option maxRecDepth 100000 in
set_option maxHeartbeats 1600000 in
theorem rest_18_10 (d : Int) (n m imm : Int) (w : World) (hi : I64 imm)  (D N M : List UInt8) (hD : D.length ≤ 66) (hN : N.length ≤ 66) (hM : M.length ≤ 66) (R : List UInt8) (hR : R = ([68, 77, 66, 32, 73, 83, 72, 83, 84] : List UInt8)) :
    Calls Try.prog 22 #[instrW 18 d n m imm 10, .string (ba D), .string (ba N), .string (ba M)] w fun e w' => e = .returned (.string (ba R)) ∧ Below w.heap.size w w' := by
  have HB := Lib.hid (below_alloc (Below.refl w.heap.size w) (.cells #[.int .i64 18, .int .i64 d, .int .i64 n, .int .i64 m, .int .i64 imm, .int .i64 10] 23))
  have HT := Lib.hid (fun w1 : World => target_any imm w1 hi)
  have b1 := intL_len imm hi
  have bT : (targetL imm).length ≤ 67 := by unfold targetL; split <;> (simp; omega)
  generalize targetL imm = TG at *
  have HX := Lib.hid hR
  clear hR
  go_enter Try.func22, Try.ntmps22
  go_wp2_with fail
  refine (abar_10 _).mono ?_
  rintro e w' ⟨rfl, rfl⟩
  go_wp2_with fail
  go_ret
  exact ⟨by rw [HX.out]; rfl, HB.out⟩
set_option maxRecDepth 100000 in
set_option maxHeartbeats 1600000 in
theorem rest_19_15 (d : Int) (n m imm : Int) (w : World) (hi : I64 imm)  (D N M : List UInt8) (hD : D.length ≤ 66) (hN : N.length ≤ 66) (hM : M.length ≤ 66) (R : List UInt8) (hR : R = ([68, 83, 66, 32, 83, 89] : List UInt8)) :
    Calls Try.prog 22 #[instrW 19 d n m imm 15, .string (ba D), .string (ba N), .string (ba M)] w fun e w' => e = .returned (.string (ba R)) ∧ Below w.heap.size w w' := by
  have HB := Lib.hid (below_alloc (Below.refl w.heap.size w) (.cells #[.int .i64 19, .int .i64 d, .int .i64 n, .int .i64 m, .int .i64 imm, .int .i64 15] 23))
  have HT := Lib.hid (fun w1 : World => target_any imm w1 hi)
  have b1 := intL_len imm hi
  have bT : (targetL imm).length ≤ 67 := by unfold targetL; split <;> (simp; omega)
  generalize targetL imm = TG at *
  have HX := Lib.hid hR
  clear hR
  go_enter Try.func22, Try.ntmps22
  go_wp2_with fail
  refine (abar_15 _).mono ?_
  rintro e w' ⟨rfl, rfl⟩
  go_wp2_with fail
  go_ret
  exact ⟨by rw [HX.out]; rfl, HB.out⟩
set_option maxRecDepth 100000 in
set_option maxHeartbeats 1600000 in
theorem rest_19_13 (d : Int) (n m imm : Int) (w : World) (hi : I64 imm)  (D N M : List UInt8) (hD : D.length ≤ 66) (hN : N.length ≤ 66) (hM : M.length ≤ 66) (R : List UInt8) (hR : R = ([68, 83, 66, 32, 76, 68] : List UInt8)) :
    Calls Try.prog 22 #[instrW 19 d n m imm 13, .string (ba D), .string (ba N), .string (ba M)] w fun e w' => e = .returned (.string (ba R)) ∧ Below w.heap.size w w' := by
  have HB := Lib.hid (below_alloc (Below.refl w.heap.size w) (.cells #[.int .i64 19, .int .i64 d, .int .i64 n, .int .i64 m, .int .i64 imm, .int .i64 13] 23))
  have HT := Lib.hid (fun w1 : World => target_any imm w1 hi)
  have b1 := intL_len imm hi
  have bT : (targetL imm).length ≤ 67 := by unfold targetL; split <;> (simp; omega)
  generalize targetL imm = TG at *
  have HX := Lib.hid hR
  clear hR
  go_enter Try.func22, Try.ntmps22
  go_wp2_with fail
  refine (abar_13 _).mono ?_
  rintro e w' ⟨rfl, rfl⟩
  go_wp2_with fail
  go_ret
  exact ⟨by rw [HX.out]; rfl, HB.out⟩
set_option maxRecDepth 100000 in
set_option maxHeartbeats 1600000 in
theorem rest_19_14 (d : Int) (n m imm : Int) (w : World) (hi : I64 imm)  (D N M : List UInt8) (hD : D.length ≤ 66) (hN : N.length ≤ 66) (hM : M.length ≤ 66) (R : List UInt8) (hR : R = ([68, 83, 66, 32, 83, 84] : List UInt8)) :
    Calls Try.prog 22 #[instrW 19 d n m imm 14, .string (ba D), .string (ba N), .string (ba M)] w fun e w' => e = .returned (.string (ba R)) ∧ Below w.heap.size w w' := by
  have HB := Lib.hid (below_alloc (Below.refl w.heap.size w) (.cells #[.int .i64 19, .int .i64 d, .int .i64 n, .int .i64 m, .int .i64 imm, .int .i64 14] 23))
  have HT := Lib.hid (fun w1 : World => target_any imm w1 hi)
  have b1 := intL_len imm hi
  have bT : (targetL imm).length ≤ 67 := by unfold targetL; split <;> (simp; omega)
  generalize targetL imm = TG at *
  have HX := Lib.hid hR
  clear hR
  go_enter Try.func22, Try.ntmps22
  go_wp2_with fail
  refine (abar_14 _).mono ?_
  rintro e w' ⟨rfl, rfl⟩
  go_wp2_with fail
  go_ret
  exact ⟨by rw [HX.out]; rfl, HB.out⟩
set_option maxRecDepth 100000 in
set_option maxHeartbeats 1600000 in
theorem rest_19_11 (d : Int) (n m imm : Int) (w : World) (hi : I64 imm)  (D N M : List UInt8) (hD : D.length ≤ 66) (hN : N.length ≤ 66) (hM : M.length ≤ 66) (R : List UInt8) (hR : R = ([68, 83, 66, 32, 73, 83, 72] : List UInt8)) :
    Calls Try.prog 22 #[instrW 19 d n m imm 11, .string (ba D), .string (ba N), .string (ba M)] w fun e w' => e = .returned (.string (ba R)) ∧ Below w.heap.size w w' := by
  have HB := Lib.hid (below_alloc (Below.refl w.heap.size w) (.cells #[.int .i64 19, .int .i64 d, .int .i64 n, .int .i64 m, .int .i64 imm, .int .i64 11] 23))
  have HT := Lib.hid (fun w1 : World => target_any imm w1 hi)
  have b1 := intL_len imm hi
  have bT : (targetL imm).length ≤ 67 := by unfold targetL; split <;> (simp; omega)
  generalize targetL imm = TG at *
  have HX := Lib.hid hR
  clear hR
  go_enter Try.func22, Try.ntmps22
  go_wp2_with fail
  refine (abar_11 _).mono ?_
  rintro e w' ⟨rfl, rfl⟩
  go_wp2_with fail
  go_ret
  exact ⟨by rw [HX.out]; rfl, HB.out⟩
set_option maxRecDepth 100000 in
set_option maxHeartbeats 1600000 in
theorem rest_19_9 (d : Int) (n m imm : Int) (w : World) (hi : I64 imm)  (D N M : List UInt8) (hD : D.length ≤ 66) (hN : N.length ≤ 66) (hM : M.length ≤ 66) (R : List UInt8) (hR : R = ([68, 83, 66, 32, 73, 83, 72, 76, 68] : List UInt8)) :
    Calls Try.prog 22 #[instrW 19 d n m imm 9, .string (ba D), .string (ba N), .string (ba M)] w fun e w' => e = .returned (.string (ba R)) ∧ Below w.heap.size w w' := by
  have HB := Lib.hid (below_alloc (Below.refl w.heap.size w) (.cells #[.int .i64 19, .int .i64 d, .int .i64 n, .int .i64 m, .int .i64 imm, .int .i64 9] 23))
  have HT := Lib.hid (fun w1 : World => target_any imm w1 hi)
  have b1 := intL_len imm hi
  have bT : (targetL imm).length ≤ 67 := by unfold targetL; split <;> (simp; omega)
  generalize targetL imm = TG at *
  have HX := Lib.hid hR
  clear hR
  go_enter Try.func22, Try.ntmps22
  go_wp2_with fail
  refine (abar_9 _).mono ?_
  rintro e w' ⟨rfl, rfl⟩
  go_wp2_with fail
  go_ret
  exact ⟨by rw [HX.out]; rfl, HB.out⟩
set_option maxRecDepth 100000 in
set_option maxHeartbeats 1600000 in
theorem rest_19_10 (d : Int) (n m imm : Int) (w : World) (hi : I64 imm)  (D N M : List UInt8) (hD : D.length ≤ 66) (hN : N.length ≤ 66) (hM : M.length ≤ 66) (R : List UInt8) (hR : R = ([68, 83, 66, 32, 73, 83, 72, 83, 84] : List UInt8)) :
    Calls Try.prog 22 #[instrW 19 d n m imm 10, .string (ba D), .string (ba N), .string (ba M)] w fun e w' => e = .returned (.string (ba R)) ∧ Below w.heap.size w w' := by
  have HB := Lib.hid (below_alloc (Below.refl w.heap.size w) (.cells #[.int .i64 19, .int .i64 d, .int .i64 n, .int .i64 m, .int .i64 imm, .int .i64 10] 23))
  have HT := Lib.hid (fun w1 : World => target_any imm w1 hi)
  have b1 := intL_len imm hi
  have bT : (targetL imm).length ≤ 67 := by unfold targetL; split <;> (simp; omega)
  generalize targetL imm = TG at *
  have HX := Lib.hid hR
  clear hR
  go_enter Try.func22, Try.ntmps22
  go_wp2_with fail
  refine (abar_10 _).mono ?_
  rintro e w' ⟨rfl, rfl⟩
  go_wp2_with fail
  go_ret
  exact ⟨by rw [HX.out]; rfl, HB.out⟩
set_option maxRecDepth 100000 in
set_option maxHeartbeats 1600000 in
theorem rest_21_0 (d : Int) (n m imm : Int) (w : World) (hi : I64 imm)  (D N M : List UInt8) (hD : D.length ≤ 66) (hN : N.length ≤ 66) (hM : M.length ≤ 66) (R : List UInt8) (hR : R = ([84, 76, 66, 73, 32, 86, 77, 65, 76, 76, 69, 49, 73, 83] : List UInt8)) :
    Calls Try.prog 22 #[instrW 21 d n m imm 0, .string (ba D), .string (ba N), .string (ba M)] w fun e w' => e = .returned (.string (ba R)) ∧ Below w.heap.size w w' := by
  have HB := Lib.hid (below_alloc (Below.refl w.heap.size w) (.cells #[.int .i64 21, .int .i64 d, .int .i64 n, .int .i64 m, .int .i64 imm, .int .i64 0] 23))
  have HT := Lib.hid (fun w1 : World => target_any imm w1 hi)
  have b1 := intL_len imm hi
  have bT : (targetL imm).length ≤ 67 := by unfold targetL; split <;> (simp; omega)
  generalize targetL imm = TG at *
  have HX := Lib.hid hR
  clear hR
  go_enter Try.func22, Try.ntmps22
  go_wp2_with fail
  refine (aflush_0 _).mono ?_
  rintro e w' ⟨rfl, rfl⟩
  go_wp2_with fail
  go_ret
  exact ⟨by rw [HX.out]; rfl, HB.out⟩
set_option maxRecDepth 100000 in
set_option maxHeartbeats 1600000 in
theorem rest_21_1 (d : Int) (n m imm : Int) (w : World) (hi : I64 imm)  (D N M : List UInt8) (hD : D.length ≤ 66) (hN : N.length ≤ 66) (hM : M.length ≤ 66) (R : List UInt8) (hR : R = ([84, 76, 66, 73, 32, 86, 65, 69, 49, 73, 83, 44] : List UInt8) ++ D) :
    Calls Try.prog 22 #[instrW 21 d n m imm 1, .string (ba D), .string (ba N), .string (ba M)] w fun e w' => e = .returned (.string (ba R)) ∧ Below w.heap.size w w' := by
  have HB := Lib.hid (below_alloc (Below.refl w.heap.size w) (.cells #[.int .i64 21, .int .i64 d, .int .i64 n, .int .i64 m, .int .i64 imm, .int .i64 1] 23))
  have HT := Lib.hid (fun w1 : World => target_any imm w1 hi)
  have b1 := intL_len imm hi
  have bT : (targetL imm).length ≤ 67 := by unfold targetL; split <;> (simp; omega)
  generalize targetL imm = TG at *
  obtain ⟨A1, hA1⟩ : ∃ A : List UInt8, A = [84, 76, 66, 73, 32, 86, 65, 69, 49, 73, 83, 44] ++ D := ⟨_, rfl⟩
  have hcat1 : ∀ wx : World, (Op.stringOp .add ({ data := #[84, 76, 66, 73, 32] } ++ { data := #[86, 65, 69, 49, 73, 83] } ++ { data := #[44] } : ByteArray) (ba D)).run Try.prog wx = .ok (.string (ba A1)) wx := by
    have hq : ({ data := #[84, 76, 66, 73, 32] } ++ { data := #[86, 65, 69, 49, 73, 83] } ++ { data := #[44] } : ByteArray) = ba [84, 76, 66, 73, 32, 86, 65, 69, 49, 73, 83, 44] := by kernel_rfl
    rw [hq]
    exact cat_bb (P := Try.prog) _ _ A1 hA1 (by simp; omega)
  have HX := Lib.hid (show R = A1 by rw [hR, hA1] <;> simp)
  clear hR hA1
  go_enter Try.func22, Try.ntmps22
  go_wp2_with fail
  refine (aflush_1 _).mono ?_
  rintro e w' ⟨rfl, rfl⟩
  go_wp2_with fail
  go_ret
  exact ⟨by rw [HX.out]; rfl, HB.out⟩
set_option maxRecDepth 100000 in
set_option maxHeartbeats 1600000 in
theorem rest_21_2 (d : Int) (n m imm : Int) (w : World) (hi : I64 imm)  (D N M : List UInt8) (hD : D.length ≤ 66) (hN : N.length ≤ 66) (hM : M.length ≤ 66) (R : List UInt8) (hR : R = ([84, 76, 66, 73, 32, 86, 65, 65, 69, 49, 73, 83, 44] : List UInt8) ++ D) :
    Calls Try.prog 22 #[instrW 21 d n m imm 2, .string (ba D), .string (ba N), .string (ba M)] w fun e w' => e = .returned (.string (ba R)) ∧ Below w.heap.size w w' := by
  have HB := Lib.hid (below_alloc (Below.refl w.heap.size w) (.cells #[.int .i64 21, .int .i64 d, .int .i64 n, .int .i64 m, .int .i64 imm, .int .i64 2] 23))
  have HT := Lib.hid (fun w1 : World => target_any imm w1 hi)
  have b1 := intL_len imm hi
  have bT : (targetL imm).length ≤ 67 := by unfold targetL; split <;> (simp; omega)
  generalize targetL imm = TG at *
  obtain ⟨A1, hA1⟩ : ∃ A : List UInt8, A = [84, 76, 66, 73, 32, 86, 65, 65, 69, 49, 73, 83, 44] ++ D := ⟨_, rfl⟩
  have hcat1 : ∀ wx : World, (Op.stringOp .add ({ data := #[84, 76, 66, 73, 32] } ++ { data := #[86, 65, 65, 69, 49, 73, 83] } ++ { data := #[44] } : ByteArray) (ba D)).run Try.prog wx = .ok (.string (ba A1)) wx := by
    have hq : ({ data := #[84, 76, 66, 73, 32] } ++ { data := #[86, 65, 65, 69, 49, 73, 83] } ++ { data := #[44] } : ByteArray) = ba [84, 76, 66, 73, 32, 86, 65, 65, 69, 49, 73, 83, 44] := by kernel_rfl
    rw [hq]
    exact cat_bb (P := Try.prog) _ _ A1 hA1 (by simp; omega)
  have HX := Lib.hid (show R = A1 by rw [hR, hA1] <;> simp)
  clear hR hA1
  go_enter Try.func22, Try.ntmps22
  go_wp2_with fail
  refine (aflush_2 _).mono ?_
  rintro e w' ⟨rfl, rfl⟩
  go_wp2_with fail
  go_ret
  exact ⟨by rw [HX.out]; rfl, HB.out⟩
set_option maxRecDepth 100000 in
set_option maxHeartbeats 1600000 in
theorem rest_21_3 (d : Int) (n m imm : Int) (w : World) (hi : I64 imm)  (D N M : List UInt8) (hD : D.length ≤ 66) (hN : N.length ≤ 66) (hM : M.length ≤ 66) (R : List UInt8) (hR : R = ([84, 76, 66, 73, 32, 65, 83, 73, 68, 69, 49, 73, 83, 44] : List UInt8) ++ D) :
    Calls Try.prog 22 #[instrW 21 d n m imm 3, .string (ba D), .string (ba N), .string (ba M)] w fun e w' => e = .returned (.string (ba R)) ∧ Below w.heap.size w w' := by
  have HB := Lib.hid (below_alloc (Below.refl w.heap.size w) (.cells #[.int .i64 21, .int .i64 d, .int .i64 n, .int .i64 m, .int .i64 imm, .int .i64 3] 23))
  have HT := Lib.hid (fun w1 : World => target_any imm w1 hi)
  have b1 := intL_len imm hi
  have bT : (targetL imm).length ≤ 67 := by unfold targetL; split <;> (simp; omega)
  generalize targetL imm = TG at *
  obtain ⟨A1, hA1⟩ : ∃ A : List UInt8, A = [84, 76, 66, 73, 32, 65, 83, 73, 68, 69, 49, 73, 83, 44] ++ D := ⟨_, rfl⟩
  have hcat1 : ∀ wx : World, (Op.stringOp .add ({ data := #[84, 76, 66, 73, 32] } ++ { data := #[65, 83, 73, 68, 69, 49, 73, 83] } ++ { data := #[44] } : ByteArray) (ba D)).run Try.prog wx = .ok (.string (ba A1)) wx := by
    have hq : ({ data := #[84, 76, 66, 73, 32] } ++ { data := #[65, 83, 73, 68, 69, 49, 73, 83] } ++ { data := #[44] } : ByteArray) = ba [84, 76, 66, 73, 32, 65, 83, 73, 68, 69, 49, 73, 83, 44] := by kernel_rfl
    rw [hq]
    exact cat_bb (P := Try.prog) _ _ A1 hA1 (by simp; omega)
  have HX := Lib.hid (show R = A1 by rw [hR, hA1] <;> simp)
  clear hR hA1
  go_enter Try.func22, Try.ntmps22
  go_wp2_with fail
  refine (aflush_3 _).mono ?_
  rintro e w' ⟨rfl, rfl⟩
  go_wp2_with fail
  go_ret
  exact ⟨by rw [HX.out]; rfl, HB.out⟩
set_option maxRecDepth 100000 in
set_option maxHeartbeats 1600000 in
theorem rest_21_4 (d : Int) (n m imm : Int) (w : World) (hi : I64 imm)  (D N M : List UInt8) (hD : D.length ≤ 66) (hN : N.length ≤ 66) (hM : M.length ≤ 66) (R : List UInt8) (hR : R = ([84, 76, 66, 73, 32, 86, 77, 65, 76, 76, 69, 49] : List UInt8)) :
    Calls Try.prog 22 #[instrW 21 d n m imm 4, .string (ba D), .string (ba N), .string (ba M)] w fun e w' => e = .returned (.string (ba R)) ∧ Below w.heap.size w w' := by
  have HB := Lib.hid (below_alloc (Below.refl w.heap.size w) (.cells #[.int .i64 21, .int .i64 d, .int .i64 n, .int .i64 m, .int .i64 imm, .int .i64 4] 23))
  have HT := Lib.hid (fun w1 : World => target_any imm w1 hi)
  have b1 := intL_len imm hi
  have bT : (targetL imm).length ≤ 67 := by unfold targetL; split <;> (simp; omega)
  generalize targetL imm = TG at *
  have HX := Lib.hid hR
  clear hR
  go_enter Try.func22, Try.ntmps22
  go_wp2_with fail
  refine (aflush_4 _).mono ?_
  rintro e w' ⟨rfl, rfl⟩
  go_wp2_with fail
  go_ret
  exact ⟨by rw [HX.out]; rfl, HB.out⟩
set_option maxRecDepth 100000 in
set_option maxHeartbeats 1600000 in
theorem rest_21_5 (d : Int) (n m imm : Int) (w : World) (hi : I64 imm)  (D N M : List UInt8) (hD : D.length ≤ 66) (hN : N.length ≤ 66) (hM : M.length ≤ 66) (R : List UInt8) (hR : R = ([84, 76, 66, 73, 32, 86, 65, 69, 49, 44] : List UInt8) ++ D) :
    Calls Try.prog 22 #[instrW 21 d n m imm 5, .string (ba D), .string (ba N), .string (ba M)] w fun e w' => e = .returned (.string (ba R)) ∧ Below w.heap.size w w' := by
  have HB := Lib.hid (below_alloc (Below.refl w.heap.size w) (.cells #[.int .i64 21, .int .i64 d, .int .i64 n, .int .i64 m, .int .i64 imm, .int .i64 5] 23))
  have HT := Lib.hid (fun w1 : World => target_any imm w1 hi)
  have b1 := intL_len imm hi
  have bT : (targetL imm).length ≤ 67 := by unfold targetL; split <;> (simp; omega)
  generalize targetL imm = TG at *
  obtain ⟨A1, hA1⟩ : ∃ A : List UInt8, A = [84, 76, 66, 73, 32, 86, 65, 69, 49, 44] ++ D := ⟨_, rfl⟩
  have hcat1 : ∀ wx : World, (Op.stringOp .add ({ data := #[84, 76, 66, 73, 32] } ++ { data := #[86, 65, 69, 49] } ++ { data := #[44] } : ByteArray) (ba D)).run Try.prog wx = .ok (.string (ba A1)) wx := by
    have hq : ({ data := #[84, 76, 66, 73, 32] } ++ { data := #[86, 65, 69, 49] } ++ { data := #[44] } : ByteArray) = ba [84, 76, 66, 73, 32, 86, 65, 69, 49, 44] := by kernel_rfl
    rw [hq]
    exact cat_bb (P := Try.prog) _ _ A1 hA1 (by simp; omega)
  have HX := Lib.hid (show R = A1 by rw [hR, hA1] <;> simp)
  clear hR hA1
  go_enter Try.func22, Try.ntmps22
  go_wp2_with fail
  refine (aflush_5 _).mono ?_
  rintro e w' ⟨rfl, rfl⟩
  go_wp2_with fail
  go_ret
  exact ⟨by rw [HX.out]; rfl, HB.out⟩
set_option maxRecDepth 100000 in
set_option maxHeartbeats 1600000 in
theorem rest_21_6 (d : Int) (n m imm : Int) (w : World) (hi : I64 imm)  (D N M : List UInt8) (hD : D.length ≤ 66) (hN : N.length ≤ 66) (hM : M.length ≤ 66) (R : List UInt8) (hR : R = ([84, 76, 66, 73, 32, 86, 65, 65, 69, 49, 44] : List UInt8) ++ D) :
    Calls Try.prog 22 #[instrW 21 d n m imm 6, .string (ba D), .string (ba N), .string (ba M)] w fun e w' => e = .returned (.string (ba R)) ∧ Below w.heap.size w w' := by
  have HB := Lib.hid (below_alloc (Below.refl w.heap.size w) (.cells #[.int .i64 21, .int .i64 d, .int .i64 n, .int .i64 m, .int .i64 imm, .int .i64 6] 23))
  have HT := Lib.hid (fun w1 : World => target_any imm w1 hi)
  have b1 := intL_len imm hi
  have bT : (targetL imm).length ≤ 67 := by unfold targetL; split <;> (simp; omega)
  generalize targetL imm = TG at *
  obtain ⟨A1, hA1⟩ : ∃ A : List UInt8, A = [84, 76, 66, 73, 32, 86, 65, 65, 69, 49, 44] ++ D := ⟨_, rfl⟩
  have hcat1 : ∀ wx : World, (Op.stringOp .add ({ data := #[84, 76, 66, 73, 32] } ++ { data := #[86, 65, 65, 69, 49] } ++ { data := #[44] } : ByteArray) (ba D)).run Try.prog wx = .ok (.string (ba A1)) wx := by
    have hq : ({ data := #[84, 76, 66, 73, 32] } ++ { data := #[86, 65, 65, 69, 49] } ++ { data := #[44] } : ByteArray) = ba [84, 76, 66, 73, 32, 86, 65, 65, 69, 49, 44] := by kernel_rfl
    rw [hq]
    exact cat_bb (P := Try.prog) _ _ A1 hA1 (by simp; omega)
  have HX := Lib.hid (show R = A1 by rw [hR, hA1] <;> simp)
  clear hR hA1
  go_enter Try.func22, Try.ntmps22
  go_wp2_with fail
  refine (aflush_6 _).mono ?_
  rintro e w' ⟨rfl, rfl⟩
  go_wp2_with fail
  go_ret
  exact ⟨by rw [HX.out]; rfl, HB.out⟩
set_option maxRecDepth 100000 in
set_option maxHeartbeats 1600000 in
theorem rest_21_7 (d : Int) (n m imm : Int) (w : World) (hi : I64 imm)  (D N M : List UInt8) (hD : D.length ≤ 66) (hN : N.length ≤ 66) (hM : M.length ≤ 66) (R : List UInt8) (hR : R = ([84, 76, 66, 73, 32, 65, 83, 73, 68, 69, 49, 44] : List UInt8) ++ D) :
    Calls Try.prog 22 #[instrW 21 d n m imm 7, .string (ba D), .string (ba N), .string (ba M)] w fun e w' => e = .returned (.string (ba R)) ∧ Below w.heap.size w w' := by
  have HB := Lib.hid (below_alloc (Below.refl w.heap.size w) (.cells #[.int .i64 21, .int .i64 d, .int .i64 n, .int .i64 m, .int .i64 imm, .int .i64 7] 23))
  have HT := Lib.hid (fun w1 : World => target_any imm w1 hi)
  have b1 := intL_len imm hi
  have bT : (targetL imm).length ≤ 67 := by unfold targetL; split <;> (simp; omega)
  generalize targetL imm = TG at *
  obtain ⟨A1, hA1⟩ : ∃ A : List UInt8, A = [84, 76, 66, 73, 32, 65, 83, 73, 68, 69, 49, 44] ++ D := ⟨_, rfl⟩
  have hcat1 : ∀ wx : World, (Op.stringOp .add ({ data := #[84, 76, 66, 73, 32] } ++ { data := #[65, 83, 73, 68, 69, 49] } ++ { data := #[44] } : ByteArray) (ba D)).run Try.prog wx = .ok (.string (ba A1)) wx := by
    have hq : ({ data := #[84, 76, 66, 73, 32] } ++ { data := #[65, 83, 73, 68, 69, 49] } ++ { data := #[44] } : ByteArray) = ba [84, 76, 66, 73, 32, 65, 83, 73, 68, 69, 49, 44] := by kernel_rfl
    rw [hq]
    exact cat_bb (P := Try.prog) _ _ A1 hA1 (by simp; omega)
  have HX := Lib.hid (show R = A1 by rw [hR, hA1] <;> simp)
  clear hR hA1
  go_enter Try.func22, Try.ntmps22
  go_wp2_with fail
  refine (aflush_7 _).mono ?_
  rintro e w' ⟨rfl, rfl⟩
  go_wp2_with fail
  go_ret
  exact ⟨by rw [HX.out]; rfl, HB.out⟩
set_option maxRecDepth 100000 in
set_option maxHeartbeats 1600000 in
theorem rest_23_0 (d : Int) (n m imm : Int) (w : World) (hi : I64 imm)  (D N M : List UInt8) (hD : D.length ≤ 66) (hN : N.length ≤ 66) (hM : M.length ≤ 66) (R : List UInt8) (hR : R = ([77, 82, 83, 32] : List UInt8) ++ D ++ ([44] : List UInt8) ++ ([69, 83, 82, 95, 69, 76, 49] : List UInt8)) :
    Calls Try.prog 22 #[instrW 23 d n m imm 0, .string (ba D), .string (ba N), .string (ba M)] w fun e w' => e = .returned (.string (ba R)) ∧ Below w.heap.size w w' := by
  have HB := Lib.hid (below_alloc (Below.refl w.heap.size w) (.cells #[.int .i64 23, .int .i64 d, .int .i64 n, .int .i64 m, .int .i64 imm, .int .i64 0] 23))
  have HT := Lib.hid (fun w1 : World => target_any imm w1 hi)
  have b1 := intL_len imm hi
  have bT : (targetL imm).length ≤ 67 := by unfold targetL; split <;> (simp; omega)
  generalize targetL imm = TG at *
  obtain ⟨A1, hA1⟩ : ∃ A : List UInt8, A = [77, 82, 83, 32] ++ D := ⟨_, rfl⟩
  have hcat1 : ∀ wx : World, (Op.stringOp .add ({ data := #[77, 82, 83, 32] } : ByteArray) (ba D)).run Try.prog wx = .ok (.string (ba A1)) wx := cat_bb (P := Try.prog) _ _ A1 hA1 (by simp; omega)
  obtain ⟨A2, hA2⟩ : ∃ A : List UInt8, A = A1 ++ [44] := ⟨_, rfl⟩
  have hcat2 : ∀ wx : World, (Op.stringOp .add (ba A1) { data := #[44] }).run Try.prog wx = .ok (.string (ba A2)) wx := cat_bb (P := Try.prog) _ _ A2 hA2 (by rw [hA1]; simp; omega)
  obtain ⟨A3, hA3⟩ : ∃ A : List UInt8, A = A2 ++ [69, 83, 82, 95, 69, 76, 49] := ⟨_, rfl⟩
  have hcat3 : ∀ wx : World, (Op.stringOp .add (ba A2) { data := #[69, 83, 82, 95, 69, 76, 49] }).run Try.prog wx = .ok (.string (ba A3)) wx := cat_bb (P := Try.prog) _ _ A3 hA3 (by rw [hA2]; rw [hA1]; simp; omega)
  have HX := Lib.hid (show R = A3 by rw [hR, hA3, hA2, hA1] <;> simp)
  clear hR hA1 hA2 hA3
  go_enter Try.func22, Try.ntmps22
  go_wp2_with fail
  refine (asys_0 _).mono ?_
  rintro e w' ⟨rfl, rfl⟩
  go_wp2_with fail
  go_ret
  exact ⟨by rw [HX.out]; rfl, HB.out⟩
set_option maxRecDepth 100000 in
set_option maxHeartbeats 1600000 in
theorem rest_23_1 (d : Int) (n m imm : Int) (w : World) (hi : I64 imm)  (D N M : List UInt8) (hD : D.length ≤ 66) (hN : N.length ≤ 66) (hM : M.length ≤ 66) (R : List UInt8) (hR : R = ([77, 82, 83, 32] : List UInt8) ++ D ++ ([44] : List UInt8) ++ ([70, 65, 82, 95, 69, 76, 49] : List UInt8)) :
    Calls Try.prog 22 #[instrW 23 d n m imm 1, .string (ba D), .string (ba N), .string (ba M)] w fun e w' => e = .returned (.string (ba R)) ∧ Below w.heap.size w w' := by
  have HB := Lib.hid (below_alloc (Below.refl w.heap.size w) (.cells #[.int .i64 23, .int .i64 d, .int .i64 n, .int .i64 m, .int .i64 imm, .int .i64 1] 23))
  have HT := Lib.hid (fun w1 : World => target_any imm w1 hi)
  have b1 := intL_len imm hi
  have bT : (targetL imm).length ≤ 67 := by unfold targetL; split <;> (simp; omega)
  generalize targetL imm = TG at *
  obtain ⟨A1, hA1⟩ : ∃ A : List UInt8, A = [77, 82, 83, 32] ++ D := ⟨_, rfl⟩
  have hcat1 : ∀ wx : World, (Op.stringOp .add ({ data := #[77, 82, 83, 32] } : ByteArray) (ba D)).run Try.prog wx = .ok (.string (ba A1)) wx := cat_bb (P := Try.prog) _ _ A1 hA1 (by simp; omega)
  obtain ⟨A2, hA2⟩ : ∃ A : List UInt8, A = A1 ++ [44] := ⟨_, rfl⟩
  have hcat2 : ∀ wx : World, (Op.stringOp .add (ba A1) { data := #[44] }).run Try.prog wx = .ok (.string (ba A2)) wx := cat_bb (P := Try.prog) _ _ A2 hA2 (by rw [hA1]; simp; omega)
  obtain ⟨A3, hA3⟩ : ∃ A : List UInt8, A = A2 ++ [70, 65, 82, 95, 69, 76, 49] := ⟨_, rfl⟩
  have hcat3 : ∀ wx : World, (Op.stringOp .add (ba A2) { data := #[70, 65, 82, 95, 69, 76, 49] }).run Try.prog wx = .ok (.string (ba A3)) wx := cat_bb (P := Try.prog) _ _ A3 hA3 (by rw [hA2]; rw [hA1]; simp; omega)
  have HX := Lib.hid (show R = A3 by rw [hR, hA3, hA2, hA1] <;> simp)
  clear hR hA1 hA2 hA3
  go_enter Try.func22, Try.ntmps22
  go_wp2_with fail
  refine (asys_1 _).mono ?_
  rintro e w' ⟨rfl, rfl⟩
  go_wp2_with fail
  go_ret
  exact ⟨by rw [HX.out]; rfl, HB.out⟩
set_option maxRecDepth 100000 in
set_option maxHeartbeats 1600000 in
theorem rest_23_2 (d : Int) (n m imm : Int) (w : World) (hi : I64 imm)  (D N M : List UInt8) (hD : D.length ≤ 66) (hN : N.length ≤ 66) (hM : M.length ≤ 66) (R : List UInt8) (hR : R = ([77, 82, 83, 32] : List UInt8) ++ D ++ ([44] : List UInt8) ++ ([69, 76, 82, 95, 69, 76, 49] : List UInt8)) :
    Calls Try.prog 22 #[instrW 23 d n m imm 2, .string (ba D), .string (ba N), .string (ba M)] w fun e w' => e = .returned (.string (ba R)) ∧ Below w.heap.size w w' := by
  have HB := Lib.hid (below_alloc (Below.refl w.heap.size w) (.cells #[.int .i64 23, .int .i64 d, .int .i64 n, .int .i64 m, .int .i64 imm, .int .i64 2] 23))
  have HT := Lib.hid (fun w1 : World => target_any imm w1 hi)
  have b1 := intL_len imm hi
  have bT : (targetL imm).length ≤ 67 := by unfold targetL; split <;> (simp; omega)
  generalize targetL imm = TG at *
  obtain ⟨A1, hA1⟩ : ∃ A : List UInt8, A = [77, 82, 83, 32] ++ D := ⟨_, rfl⟩
  have hcat1 : ∀ wx : World, (Op.stringOp .add ({ data := #[77, 82, 83, 32] } : ByteArray) (ba D)).run Try.prog wx = .ok (.string (ba A1)) wx := cat_bb (P := Try.prog) _ _ A1 hA1 (by simp; omega)
  obtain ⟨A2, hA2⟩ : ∃ A : List UInt8, A = A1 ++ [44] := ⟨_, rfl⟩
  have hcat2 : ∀ wx : World, (Op.stringOp .add (ba A1) { data := #[44] }).run Try.prog wx = .ok (.string (ba A2)) wx := cat_bb (P := Try.prog) _ _ A2 hA2 (by rw [hA1]; simp; omega)
  obtain ⟨A3, hA3⟩ : ∃ A : List UInt8, A = A2 ++ [69, 76, 82, 95, 69, 76, 49] := ⟨_, rfl⟩
  have hcat3 : ∀ wx : World, (Op.stringOp .add (ba A2) { data := #[69, 76, 82, 95, 69, 76, 49] }).run Try.prog wx = .ok (.string (ba A3)) wx := cat_bb (P := Try.prog) _ _ A3 hA3 (by rw [hA2]; rw [hA1]; simp; omega)
  have HX := Lib.hid (show R = A3 by rw [hR, hA3, hA2, hA1] <;> simp)
  clear hR hA1 hA2 hA3
  go_enter Try.func22, Try.ntmps22
  go_wp2_with fail
  refine (asys_2 _).mono ?_
  rintro e w' ⟨rfl, rfl⟩
  go_wp2_with fail
  go_ret
  exact ⟨by rw [HX.out]; rfl, HB.out⟩
set_option maxRecDepth 100000 in
set_option maxHeartbeats 1600000 in
theorem rest_13a (n m imm : Int) (kind : Int) (w : World) (hi : I64 imm)  (D N M : List UInt8) (hD : D.length ≤ 66) (hN : N.length ≤ 66) (hM : M.length ≤ 66) (R : List UInt8) (hR : R = ([67, 77, 80, 32] : List UInt8) ++ N ++ [44] ++ M) :
    Calls Try.prog 22 #[instrW 13 31 n m imm kind, .string (ba D), .string (ba N), .string (ba M)] w fun e w' => e = .returned (.string (ba R)) ∧ Below w.heap.size w w' := by
  have HB := Lib.hid (below_alloc (Below.refl w.heap.size w) (.cells #[.int .i64 13, .int .i64 31, .int .i64 n, .int .i64 m, .int .i64 imm, .int .i64 kind] 23))
  have HT := Lib.hid (fun w1 : World => target_any imm w1 hi)
  have b1 := intL_len imm hi
  have bT : (targetL imm).length ≤ 67 := by unfold targetL; split <;> (simp; omega)
  generalize targetL imm = TG at *
  obtain ⟨A1, hA1⟩ : ∃ A : List UInt8, A = [67, 77, 80, 32] ++ N := ⟨_, rfl⟩
  have hcat1 : ∀ wx : World, (Op.stringOp .add ({ data := #[67, 77, 80, 32] } : ByteArray) (ba N)).run Try.prog wx = .ok (.string (ba A1)) wx := cat_bb (P := Try.prog) _ _ A1 hA1 (by simp; omega)
  obtain ⟨A2, hA2⟩ : ∃ A : List UInt8, A = A1 ++ [44] := ⟨_, rfl⟩
  have hcat2 : ∀ wx : World, (Op.stringOp .add (ba A1) { data := #[44] }).run Try.prog wx = .ok (.string (ba A2)) wx := cat_bb (P := Try.prog) _ _ A2 hA2 (by rw [hA1]; simp; omega)
  obtain ⟨A3, hA3⟩ : ∃ A : List UInt8, A = A2 ++ M := ⟨_, rfl⟩
  have hcat3 : ∀ wx : World, (Op.stringOp .add (ba A2) (ba M)).run Try.prog wx = .ok (.string (ba A3)) wx := cat_bb (P := Try.prog) _ _ A3 hA3 (by rw [hA2]; rw [hA1]; simp; omega)
  have HX := Lib.hid (show R = A3 by rw [hR, hA3, hA2, hA1] <;> simp)
  clear hR hA1 hA2 hA3
  go_enter Try.func22, Try.ntmps22
  go_wp2_with fail
  go_ret
  exact ⟨by rw [HX.out]; rfl, HB.out⟩
set_option maxRecDepth 100000 in
set_option maxHeartbeats 1600000 in
theorem rest_8 (d : Int) (n m imm : Int) (kind : Int) (w : World) (hi : I64 imm)  (D N M : List UInt8) (hD : D.length ≤ 66) (hN : N.length ≤ 66) (hM : M.length ≤ 66) (R : List UInt8) (hR : R = ([65, 68, 68, 32] : List UInt8) ++ D ++ [44] ++ N ++ [44] ++ M) :
    Calls Try.prog 22 #[instrW 8 d n m imm kind, .string (ba D), .string (ba N), .string (ba M)] w fun e w' => e = .returned (.string (ba R)) ∧ Below w.heap.size w w' := by
  have HB := Lib.hid (below_alloc (Below.refl w.heap.size w) (.cells #[.int .i64 8, .int .i64 d, .int .i64 n, .int .i64 m, .int .i64 imm, .int .i64 kind] 23))
  have HT := Lib.hid (fun w1 : World => target_any imm w1 hi)
  have b1 := intL_len imm hi
  have bT : (targetL imm).length ≤ 67 := by unfold targetL; split <;> (simp; omega)
  generalize targetL imm = TG at *
  obtain ⟨A1, hA1⟩ : ∃ A : List UInt8, A = [65, 68, 68, 32] ++ D := ⟨_, rfl⟩
  have hcat1 : ∀ wx : World, (Op.stringOp .add ({ data := #[65, 68, 68] } ++ { data := #[32] } : ByteArray) (ba D)).run Try.prog wx = .ok (.string (ba A1)) wx := by
    have hq : ({ data := #[65, 68, 68] } ++ { data := #[32] } : ByteArray) = ba [65, 68, 68, 32] := by kernel_rfl
    rw [hq]
    exact cat_bb (P := Try.prog) _ _ A1 hA1 (by simp; omega)
  obtain ⟨A2, hA2⟩ : ∃ A : List UInt8, A = A1 ++ [44] := ⟨_, rfl⟩
  have hcat2 : ∀ wx : World, (Op.stringOp .add (ba A1) { data := #[44] }).run Try.prog wx = .ok (.string (ba A2)) wx := cat_bb (P := Try.prog) _ _ A2 hA2 (by rw [hA1]; simp; omega)
  obtain ⟨A3, hA3⟩ : ∃ A : List UInt8, A = A2 ++ N := ⟨_, rfl⟩
  have hcat3 : ∀ wx : World, (Op.stringOp .add (ba A2) (ba N)).run Try.prog wx = .ok (.string (ba A3)) wx := cat_bb (P := Try.prog) _ _ A3 hA3 (by rw [hA2]; rw [hA1]; simp; omega)
  obtain ⟨A4, hA4⟩ : ∃ A : List UInt8, A = A3 ++ [44] := ⟨_, rfl⟩
  have hcat4 : ∀ wx : World, (Op.stringOp .add (ba A3) { data := #[44] }).run Try.prog wx = .ok (.string (ba A4)) wx := cat_bb (P := Try.prog) _ _ A4 hA4 (by rw [hA3]; rw [hA2]; rw [hA1]; simp; omega)
  obtain ⟨A5, hA5⟩ : ∃ A : List UInt8, A = A4 ++ M := ⟨_, rfl⟩
  have hcat5 : ∀ wx : World, (Op.stringOp .add (ba A4) (ba M)).run Try.prog wx = .ok (.string (ba A5)) wx := cat_bb (P := Try.prog) _ _ A5 hA5 (by rw [hA4]; rw [hA3]; rw [hA2]; rw [hA1]; simp; omega)
  have HX := Lib.hid (show R = A5 by rw [hR, hA5, hA4, hA3, hA2, hA1] <;> simp)
  clear hR hA1 hA2 hA3 hA4 hA5
  go_enter Try.func22, Try.ntmps22
  go_wp2_with fail
  refine (aname_8 _).mono ?_
  rintro e w' ⟨rfl, rfl⟩
  go_wp2_with fail
  go_ret
  exact ⟨by rw [HX.out]; rfl, HB.out⟩
set_option maxRecDepth 100000 in
set_option maxHeartbeats 1600000 in
theorem rest_9 (d : Int) (n m imm : Int) (kind : Int) (w : World) (hi : I64 imm)  (D N M : List UInt8) (hD : D.length ≤ 66) (hN : N.length ≤ 66) (hM : M.length ≤ 66) (R : List UInt8) (hR : R = ([83, 85, 66, 32] : List UInt8) ++ D ++ [44] ++ N ++ [44] ++ M) :
    Calls Try.prog 22 #[instrW 9 d n m imm kind, .string (ba D), .string (ba N), .string (ba M)] w fun e w' => e = .returned (.string (ba R)) ∧ Below w.heap.size w w' := by
  have HB := Lib.hid (below_alloc (Below.refl w.heap.size w) (.cells #[.int .i64 9, .int .i64 d, .int .i64 n, .int .i64 m, .int .i64 imm, .int .i64 kind] 23))
  have HT := Lib.hid (fun w1 : World => target_any imm w1 hi)
  have b1 := intL_len imm hi
  have bT : (targetL imm).length ≤ 67 := by unfold targetL; split <;> (simp; omega)
  generalize targetL imm = TG at *
  obtain ⟨A1, hA1⟩ : ∃ A : List UInt8, A = [83, 85, 66, 32] ++ D := ⟨_, rfl⟩
  have hcat1 : ∀ wx : World, (Op.stringOp .add ({ data := #[83, 85, 66] } ++ { data := #[32] } : ByteArray) (ba D)).run Try.prog wx = .ok (.string (ba A1)) wx := by
    have hq : ({ data := #[83, 85, 66] } ++ { data := #[32] } : ByteArray) = ba [83, 85, 66, 32] := by kernel_rfl
    rw [hq]
    exact cat_bb (P := Try.prog) _ _ A1 hA1 (by simp; omega)
  obtain ⟨A2, hA2⟩ : ∃ A : List UInt8, A = A1 ++ [44] := ⟨_, rfl⟩
  have hcat2 : ∀ wx : World, (Op.stringOp .add (ba A1) { data := #[44] }).run Try.prog wx = .ok (.string (ba A2)) wx := cat_bb (P := Try.prog) _ _ A2 hA2 (by rw [hA1]; simp; omega)
  obtain ⟨A3, hA3⟩ : ∃ A : List UInt8, A = A2 ++ N := ⟨_, rfl⟩
  have hcat3 : ∀ wx : World, (Op.stringOp .add (ba A2) (ba N)).run Try.prog wx = .ok (.string (ba A3)) wx := cat_bb (P := Try.prog) _ _ A3 hA3 (by rw [hA2]; rw [hA1]; simp; omega)
  obtain ⟨A4, hA4⟩ : ∃ A : List UInt8, A = A3 ++ [44] := ⟨_, rfl⟩
  have hcat4 : ∀ wx : World, (Op.stringOp .add (ba A3) { data := #[44] }).run Try.prog wx = .ok (.string (ba A4)) wx := cat_bb (P := Try.prog) _ _ A4 hA4 (by rw [hA3]; rw [hA2]; rw [hA1]; simp; omega)
  obtain ⟨A5, hA5⟩ : ∃ A : List UInt8, A = A4 ++ M := ⟨_, rfl⟩
  have hcat5 : ∀ wx : World, (Op.stringOp .add (ba A4) (ba M)).run Try.prog wx = .ok (.string (ba A5)) wx := cat_bb (P := Try.prog) _ _ A5 hA5 (by rw [hA4]; rw [hA3]; rw [hA2]; rw [hA1]; simp; omega)
  have HX := Lib.hid (show R = A5 by rw [hR, hA5, hA4, hA3, hA2, hA1] <;> simp)
  clear hR hA1 hA2 hA3 hA4 hA5
  go_enter Try.func22, Try.ntmps22
  go_wp2_with fail
  refine (aname_9 _).mono ?_
  rintro e w' ⟨rfl, rfl⟩
  go_wp2_with fail
  go_ret
  exact ⟨by rw [HX.out]; rfl, HB.out⟩
set_option maxRecDepth 100000 in
set_option maxHeartbeats 1600000 in
theorem rest_10 (d : Int) (n m imm : Int) (kind : Int) (w : World) (hi : I64 imm)  (D N M : List UInt8) (hD : D.length ≤ 66) (hN : N.length ≤ 66) (hM : M.length ≤ 66) (R : List UInt8) (hR : R = ([65, 78, 68, 32] : List UInt8) ++ D ++ [44] ++ N ++ [44] ++ M) :
    Calls Try.prog 22 #[instrW 10 d n m imm kind, .string (ba D), .string (ba N), .string (ba M)] w fun e w' => e = .returned (.string (ba R)) ∧ Below w.heap.size w w' := by
  have HB := Lib.hid (below_alloc (Below.refl w.heap.size w) (.cells #[.int .i64 10, .int .i64 d, .int .i64 n, .int .i64 m, .int .i64 imm, .int .i64 kind] 23))
  have HT := Lib.hid (fun w1 : World => target_any imm w1 hi)
  have b1 := intL_len imm hi
  have bT : (targetL imm).length ≤ 67 := by unfold targetL; split <;> (simp; omega)
  generalize targetL imm = TG at *
  obtain ⟨A1, hA1⟩ : ∃ A : List UInt8, A = [65, 78, 68, 32] ++ D := ⟨_, rfl⟩
  have hcat1 : ∀ wx : World, (Op.stringOp .add ({ data := #[65, 78, 68] } ++ { data := #[32] } : ByteArray) (ba D)).run Try.prog wx = .ok (.string (ba A1)) wx := by
    have hq : ({ data := #[65, 78, 68] } ++ { data := #[32] } : ByteArray) = ba [65, 78, 68, 32] := by kernel_rfl
    rw [hq]
    exact cat_bb (P := Try.prog) _ _ A1 hA1 (by simp; omega)
  obtain ⟨A2, hA2⟩ : ∃ A : List UInt8, A = A1 ++ [44] := ⟨_, rfl⟩
  have hcat2 : ∀ wx : World, (Op.stringOp .add (ba A1) { data := #[44] }).run Try.prog wx = .ok (.string (ba A2)) wx := cat_bb (P := Try.prog) _ _ A2 hA2 (by rw [hA1]; simp; omega)
  obtain ⟨A3, hA3⟩ : ∃ A : List UInt8, A = A2 ++ N := ⟨_, rfl⟩
  have hcat3 : ∀ wx : World, (Op.stringOp .add (ba A2) (ba N)).run Try.prog wx = .ok (.string (ba A3)) wx := cat_bb (P := Try.prog) _ _ A3 hA3 (by rw [hA2]; rw [hA1]; simp; omega)
  obtain ⟨A4, hA4⟩ : ∃ A : List UInt8, A = A3 ++ [44] := ⟨_, rfl⟩
  have hcat4 : ∀ wx : World, (Op.stringOp .add (ba A3) { data := #[44] }).run Try.prog wx = .ok (.string (ba A4)) wx := cat_bb (P := Try.prog) _ _ A4 hA4 (by rw [hA3]; rw [hA2]; rw [hA1]; simp; omega)
  obtain ⟨A5, hA5⟩ : ∃ A : List UInt8, A = A4 ++ M := ⟨_, rfl⟩
  have hcat5 : ∀ wx : World, (Op.stringOp .add (ba A4) (ba M)).run Try.prog wx = .ok (.string (ba A5)) wx := cat_bb (P := Try.prog) _ _ A5 hA5 (by rw [hA4]; rw [hA3]; rw [hA2]; rw [hA1]; simp; omega)
  have HX := Lib.hid (show R = A5 by rw [hR, hA5, hA4, hA3, hA2, hA1] <;> simp)
  clear hR hA1 hA2 hA3 hA4 hA5
  go_enter Try.func22, Try.ntmps22
  go_wp2_with fail
  refine (aname_10 _).mono ?_
  rintro e w' ⟨rfl, rfl⟩
  go_wp2_with fail
  go_ret
  exact ⟨by rw [HX.out]; rfl, HB.out⟩
set_option maxRecDepth 100000 in
set_option maxHeartbeats 1600000 in
theorem rest_11 (d : Int) (n m imm : Int) (kind : Int) (w : World) (hi : I64 imm)  (D N M : List UInt8) (hD : D.length ≤ 66) (hN : N.length ≤ 66) (hM : M.length ≤ 66) (R : List UInt8) (hR : R = ([79, 82, 82, 32] : List UInt8) ++ D ++ [44] ++ N ++ [44] ++ M) :
    Calls Try.prog 22 #[instrW 11 d n m imm kind, .string (ba D), .string (ba N), .string (ba M)] w fun e w' => e = .returned (.string (ba R)) ∧ Below w.heap.size w w' := by
  have HB := Lib.hid (below_alloc (Below.refl w.heap.size w) (.cells #[.int .i64 11, .int .i64 d, .int .i64 n, .int .i64 m, .int .i64 imm, .int .i64 kind] 23))
  have HT := Lib.hid (fun w1 : World => target_any imm w1 hi)
  have b1 := intL_len imm hi
  have bT : (targetL imm).length ≤ 67 := by unfold targetL; split <;> (simp; omega)
  generalize targetL imm = TG at *
  obtain ⟨A1, hA1⟩ : ∃ A : List UInt8, A = [79, 82, 82, 32] ++ D := ⟨_, rfl⟩
  have hcat1 : ∀ wx : World, (Op.stringOp .add ({ data := #[79, 82, 82] } ++ { data := #[32] } : ByteArray) (ba D)).run Try.prog wx = .ok (.string (ba A1)) wx := by
    have hq : ({ data := #[79, 82, 82] } ++ { data := #[32] } : ByteArray) = ba [79, 82, 82, 32] := by kernel_rfl
    rw [hq]
    exact cat_bb (P := Try.prog) _ _ A1 hA1 (by simp; omega)
  obtain ⟨A2, hA2⟩ : ∃ A : List UInt8, A = A1 ++ [44] := ⟨_, rfl⟩
  have hcat2 : ∀ wx : World, (Op.stringOp .add (ba A1) { data := #[44] }).run Try.prog wx = .ok (.string (ba A2)) wx := cat_bb (P := Try.prog) _ _ A2 hA2 (by rw [hA1]; simp; omega)
  obtain ⟨A3, hA3⟩ : ∃ A : List UInt8, A = A2 ++ N := ⟨_, rfl⟩
  have hcat3 : ∀ wx : World, (Op.stringOp .add (ba A2) (ba N)).run Try.prog wx = .ok (.string (ba A3)) wx := cat_bb (P := Try.prog) _ _ A3 hA3 (by rw [hA2]; rw [hA1]; simp; omega)
  obtain ⟨A4, hA4⟩ : ∃ A : List UInt8, A = A3 ++ [44] := ⟨_, rfl⟩
  have hcat4 : ∀ wx : World, (Op.stringOp .add (ba A3) { data := #[44] }).run Try.prog wx = .ok (.string (ba A4)) wx := cat_bb (P := Try.prog) _ _ A4 hA4 (by rw [hA3]; rw [hA2]; rw [hA1]; simp; omega)
  obtain ⟨A5, hA5⟩ : ∃ A : List UInt8, A = A4 ++ M := ⟨_, rfl⟩
  have hcat5 : ∀ wx : World, (Op.stringOp .add (ba A4) (ba M)).run Try.prog wx = .ok (.string (ba A5)) wx := cat_bb (P := Try.prog) _ _ A5 hA5 (by rw [hA4]; rw [hA3]; rw [hA2]; rw [hA1]; simp; omega)
  have HX := Lib.hid (show R = A5 by rw [hR, hA5, hA4, hA3, hA2, hA1] <;> simp)
  clear hR hA1 hA2 hA3 hA4 hA5
  go_enter Try.func22, Try.ntmps22
  go_wp2_with fail
  refine (aname_11 _).mono ?_
  rintro e w' ⟨rfl, rfl⟩
  go_wp2_with fail
  go_ret
  exact ⟨by rw [HX.out]; rfl, HB.out⟩
set_option maxRecDepth 100000 in
set_option maxHeartbeats 1600000 in
theorem rest_12 (d : Int) (n m imm : Int) (kind : Int) (w : World) (hi : I64 imm)  (D N M : List UInt8) (hD : D.length ≤ 66) (hN : N.length ≤ 66) (hM : M.length ≤ 66) (R : List UInt8) (hR : R = ([69, 79, 82, 32] : List UInt8) ++ D ++ [44] ++ N ++ [44] ++ M) :
    Calls Try.prog 22 #[instrW 12 d n m imm kind, .string (ba D), .string (ba N), .string (ba M)] w fun e w' => e = .returned (.string (ba R)) ∧ Below w.heap.size w w' := by
  have HB := Lib.hid (below_alloc (Below.refl w.heap.size w) (.cells #[.int .i64 12, .int .i64 d, .int .i64 n, .int .i64 m, .int .i64 imm, .int .i64 kind] 23))
  have HT := Lib.hid (fun w1 : World => target_any imm w1 hi)
  have b1 := intL_len imm hi
  have bT : (targetL imm).length ≤ 67 := by unfold targetL; split <;> (simp; omega)
  generalize targetL imm = TG at *
  obtain ⟨A1, hA1⟩ : ∃ A : List UInt8, A = [69, 79, 82, 32] ++ D := ⟨_, rfl⟩
  have hcat1 : ∀ wx : World, (Op.stringOp .add ({ data := #[69, 79, 82] } ++ { data := #[32] } : ByteArray) (ba D)).run Try.prog wx = .ok (.string (ba A1)) wx := by
    have hq : ({ data := #[69, 79, 82] } ++ { data := #[32] } : ByteArray) = ba [69, 79, 82, 32] := by kernel_rfl
    rw [hq]
    exact cat_bb (P := Try.prog) _ _ A1 hA1 (by simp; omega)
  obtain ⟨A2, hA2⟩ : ∃ A : List UInt8, A = A1 ++ [44] := ⟨_, rfl⟩
  have hcat2 : ∀ wx : World, (Op.stringOp .add (ba A1) { data := #[44] }).run Try.prog wx = .ok (.string (ba A2)) wx := cat_bb (P := Try.prog) _ _ A2 hA2 (by rw [hA1]; simp; omega)
  obtain ⟨A3, hA3⟩ : ∃ A : List UInt8, A = A2 ++ N := ⟨_, rfl⟩
  have hcat3 : ∀ wx : World, (Op.stringOp .add (ba A2) (ba N)).run Try.prog wx = .ok (.string (ba A3)) wx := cat_bb (P := Try.prog) _ _ A3 hA3 (by rw [hA2]; rw [hA1]; simp; omega)
  obtain ⟨A4, hA4⟩ : ∃ A : List UInt8, A = A3 ++ [44] := ⟨_, rfl⟩
  have hcat4 : ∀ wx : World, (Op.stringOp .add (ba A3) { data := #[44] }).run Try.prog wx = .ok (.string (ba A4)) wx := cat_bb (P := Try.prog) _ _ A4 hA4 (by rw [hA3]; rw [hA2]; rw [hA1]; simp; omega)
  obtain ⟨A5, hA5⟩ : ∃ A : List UInt8, A = A4 ++ M := ⟨_, rfl⟩
  have hcat5 : ∀ wx : World, (Op.stringOp .add (ba A4) (ba M)).run Try.prog wx = .ok (.string (ba A5)) wx := cat_bb (P := Try.prog) _ _ A5 hA5 (by rw [hA4]; rw [hA3]; rw [hA2]; rw [hA1]; simp; omega)
  have HX := Lib.hid (show R = A5 by rw [hR, hA5, hA4, hA3, hA2, hA1] <;> simp)
  clear hR hA1 hA2 hA3 hA4 hA5
  go_enter Try.func22, Try.ntmps22
  go_wp2_with fail
  refine (aname_12 _).mono ?_
  rintro e w' ⟨rfl, rfl⟩
  go_wp2_with fail
  go_ret
  exact ⟨by rw [HX.out]; rfl, HB.out⟩
set_option maxRecDepth 100000 in
set_option maxHeartbeats 1600000 in
theorem rest_13b (d : Int) (n m imm : Int) (kind : Int) (w : World) (hi : I64 imm) (hd : (d == 31) = false) (D N M : List UInt8) (hD : D.length ≤ 66) (hN : N.length ≤ 66) (hM : M.length ≤ 66) (R : List UInt8) (hR : R = ([83, 85, 66, 83, 32] : List UInt8) ++ D ++ [44] ++ N ++ [44] ++ M) :
    Calls Try.prog 22 #[instrW 13 d n m imm kind, .string (ba D), .string (ba N), .string (ba M)] w fun e w' => e = .returned (.string (ba R)) ∧ Below w.heap.size w w' := by
  have HB := Lib.hid (below_alloc (Below.refl w.heap.size w) (.cells #[.int .i64 13, .int .i64 d, .int .i64 n, .int .i64 m, .int .i64 imm, .int .i64 kind] 23))
  have HT := Lib.hid (fun w1 : World => target_any imm w1 hi)
  have b1 := intL_len imm hi
  have bT : (targetL imm).length ≤ 67 := by unfold targetL; split <;> (simp; omega)
  generalize targetL imm = TG at *
  obtain ⟨A1, hA1⟩ : ∃ A : List UInt8, A = [83, 85, 66, 83, 32] ++ D := ⟨_, rfl⟩
  have hcat1 : ∀ wx : World, (Op.stringOp .add ({ data := #[83, 85, 66, 83] } ++ { data := #[32] } : ByteArray) (ba D)).run Try.prog wx = .ok (.string (ba A1)) wx := by
    have hq : ({ data := #[83, 85, 66, 83] } ++ { data := #[32] } : ByteArray) = ba [83, 85, 66, 83, 32] := by kernel_rfl
    rw [hq]
    exact cat_bb (P := Try.prog) _ _ A1 hA1 (by simp; omega)
  obtain ⟨A2, hA2⟩ : ∃ A : List UInt8, A = A1 ++ [44] := ⟨_, rfl⟩
  have hcat2 : ∀ wx : World, (Op.stringOp .add (ba A1) { data := #[44] }).run Try.prog wx = .ok (.string (ba A2)) wx := cat_bb (P := Try.prog) _ _ A2 hA2 (by rw [hA1]; simp; omega)
  obtain ⟨A3, hA3⟩ : ∃ A : List UInt8, A = A2 ++ N := ⟨_, rfl⟩
  have hcat3 : ∀ wx : World, (Op.stringOp .add (ba A2) (ba N)).run Try.prog wx = .ok (.string (ba A3)) wx := cat_bb (P := Try.prog) _ _ A3 hA3 (by rw [hA2]; rw [hA1]; simp; omega)
  obtain ⟨A4, hA4⟩ : ∃ A : List UInt8, A = A3 ++ [44] := ⟨_, rfl⟩
  have hcat4 : ∀ wx : World, (Op.stringOp .add (ba A3) { data := #[44] }).run Try.prog wx = .ok (.string (ba A4)) wx := cat_bb (P := Try.prog) _ _ A4 hA4 (by rw [hA3]; rw [hA2]; rw [hA1]; simp; omega)
  obtain ⟨A5, hA5⟩ : ∃ A : List UInt8, A = A4 ++ M := ⟨_, rfl⟩
  have hcat5 : ∀ wx : World, (Op.stringOp .add (ba A4) (ba M)).run Try.prog wx = .ok (.string (ba A5)) wx := cat_bb (P := Try.prog) _ _ A5 hA5 (by rw [hA4]; rw [hA3]; rw [hA2]; rw [hA1]; simp; omega)
  have HX := Lib.hid (show R = A5 by rw [hR, hA5, hA4, hA3, hA2, hA1] <;> simp)
  clear hR hA1 hA2 hA3 hA4 hA5
  go_enter Try.func22, Try.ntmps22
  go_wp2_with fail
  refine (aname_13 _).mono ?_
  rintro e w' ⟨rfl, rfl⟩
  go_wp2_with fail
  go_ret
  exact ⟨by rw [HX.out]; rfl, HB.out⟩
set_option maxRecDepth 100000 in
set_option maxHeartbeats 12800000 in
theorem aprint_any (op d n m imm kind : Int) (w : World) (hi : I64 imm) :
    Calls Try.prog 9 #[instrW op d n m imm kind] w fun e w' => e = .returned (.string (ba (printA op d n m imm kind))) ∧ Below w.heap.size w w' := by
  have HB := Lib.hid (below_alloc (Below.refl w.heap.size w) (.cells #[.int .i64 op, .int .i64 d, .int .i64 n, .int .i64 m, .int .i64 imm, .int .i64 kind] 23))
  have HN := Lib.hid (own_instr w op d n m imm kind)
  have HC := Lib.hid (iright_any op d n m imm kind (w.alloc (.cells #[.int .i64 op, .int .i64 d, .int .i64 n, .int .i64 m, .int .i64 imm, .int .i64 kind] 23)))
  by_cases hr : rightP op d n m imm kind
  case neg =>
    have HX := Lib.hid (show printA op d n m imm kind = [] from if_neg hr)
    rw [show rightN op d n m imm kind = 30 from if_neg hr] at HC
    go_enter Try.func9, Try.ntmps9
    go_wp2_with fail
    refine (HC.out).mono ?_
    rintro e w2 ⟨rfl, hb⟩
    go_wp2_with fail
    go_ret
    exact ⟨by rw [HX.out]; rfl, below_trans HB.out hb⟩
  have HP := Lib.hid (show printA op d n m imm kind = textA op d n m imm kind from if_pos hr)
  rw [show rightN op d n m imm kind = 0 from if_pos hr] at HC
  obtain ⟨⟨hop, hd, hn, hm⟩, hB, hCC, hDD⟩ := hr
  have HRB := Lib.hid hB
  have HRC := Lib.hid hCC
  have HRDD := Lib.hid hDD
  clear hB hCC hDD
  have HTG := Lib.hid (fun w1 => target_any imm w1 hi)
  have HII := Lib.hid (fun w1 => int_any imm w1 hi)
  have HRD := Lib.hid (fun w1 => regasm_any d w1 (by omega))
  have HRN := Lib.hid (fun w1 => regasm_any n w1 (by omega))
  have HRM := Lib.hid (fun w1 => regasm_any m w1 (by omega))
  have bI := intL_len imm hi
  have bD := regL_len d (by constructor <;> omega)
  have bN := regL_len n (by constructor <;> omega)
  have bM := regL_len m (by constructor <;> omega)
  have bT : (targetL imm).length ≤ 67 := by unfold targetL; split <;> (simp; omega)
  obtain ⟨I, hI⟩ : ∃ I : List UInt8, I = [35] ++ intL imm := ⟨_, rfl⟩
  have hcatI : ∀ wx : World, (Op.stringOp .add { data := #[35] } (ba (intL imm))).run Try.prog wx = .ok (.string (ba I)) wx := cat_bb (P := Try.prog) [35] _ I hI (by simp; omega)
  have bII : I.length ≤ 66 := by rw [hI]; simp; omega
  have HIM := Lib.hid (show immL imm = I from hI.symm)
  clear hI
  go_enter Try.func9, Try.ntmps9
  go_wp2_with fail
  refine (HC.out).mono ?_
  rintro e w2 ⟨rfl, hb⟩
  have HB2 := Lib.hid (below_trans HB.out hb)
  have hlt := (HN.out.below hb).lt
  obtain ⟨n0, n1, n2, n3, n4, n5⟩ := blk_instr (HN.out.below hb)
  clear hb HN HB HC
  go_wp2_with fail
  refine wp_region_held_drew (S := (fun w' => w'.cell? ⟨w.heap.size, 1, none⟩ = some (.int .i64 d) ∧ w'.cell? ⟨w.heap.size, 2, none⟩ = some (.int .i64 n) ∧ w'.cell? ⟨w.heap.size, 3, none⟩ = some (.int .i64 m) ∧ w'.cell? ⟨w.heap.size, 4, none⟩ = some (.int .i64 imm))) (by kernel_rfl) (by (try dsimp only); exact ⟨n1, n2, n3, n4⟩) (fun hHeld => ?_)
  refine wpAnyH_take (i := 0) (oi := ⟨some 10, _, _, _, _, _⟩) (v := ?_) rfl (by kernel_rfl) (by kernel_rfl) (by kernel_rfl) (fun _ _ _ h => h) (Or.inl ⟨by rfl, ?_⟩) (by assumption) ?_
  rotate_left
  · (intro w hSw; (try dsimp only at hSw); go_simp; try with_reducible rfl)
  simp only [Act.put, List.setIfInBounds_toArray, List.set_cons_zero, List.set_cons_succ]
  refine wpAnyH_take (i := 1) (oi := ⟨some 11, _, _, _, _, _⟩) (v := ?_) rfl (by kernel_rfl) (by kernel_rfl) (by kernel_rfl) (fun _ _ _ h => h) (Or.inl ⟨by rfl, ?_⟩) (by assumption) ?_
  rotate_left
  · (intro w hSw; (try dsimp only at hSw); go_simp; try with_reducible rfl)
  simp only [Act.put, List.setIfInBounds_toArray, List.set_cons_zero, List.set_cons_succ]
  refine wpAnyH_take (i := 3) (oi := ⟨some 13, _, _, _, _, _⟩) (v := ?_) rfl (by kernel_rfl) (by kernel_rfl) (by kernel_rfl) (fun _ _ _ h => h) (Or.inl ⟨by rfl, ?_⟩) (by assumption) ?_
  rotate_left
  · (intro w hSw; (try dsimp only at hSw); go_simp; try with_reducible rfl)
  simp only [Act.put, List.setIfInBounds_toArray, List.set_cons_zero, List.set_cons_succ]
  refine wpAnyH_take (i := 4) (oi := ⟨some 14, _, _, _, _, _⟩) (v := ?_) rfl (by kernel_rfl) (by kernel_rfl) (by kernel_rfl) (fun _ _ _ h => h) (Or.inl ⟨by rfl, ?_⟩) (by assumption) ?_
  rotate_left
  · (intro w hSw; (try dsimp only at hSw); go_simp; try with_reducible rfl)
  simp only [Act.put, List.setIfInBounds_toArray, List.set_cons_zero, List.set_cons_succ]
  refine wpAnyH_take (i := 6) (oi := ⟨some 16, _, _, _, _, _⟩) (v := ?_) rfl (by kernel_rfl) (by kernel_rfl) (by kernel_rfl) (fun _ _ _ h => h) (Or.inl ⟨by rfl, ?_⟩) (by assumption) ?_
  rotate_left
  · (intro w hSw; (try dsimp only at hSw); go_simp; try with_reducible rfl)
  simp only [Act.put, List.setIfInBounds_toArray, List.set_cons_zero, List.set_cons_succ]
  refine wpAnyH_take (i := 7) (oi := ⟨some 17, _, _, _, _, _⟩) (v := ?_) rfl (by kernel_rfl) (by kernel_rfl) (by kernel_rfl) (fun _ _ _ h => h) (Or.inl ⟨by rfl, ?_⟩) (by assumption) ?_
  rotate_left
  · (intro w hSw; (try dsimp only at hSw); go_simp; try with_reducible rfl)
  simp only [Act.put, List.setIfInBounds_toArray, List.set_cons_zero, List.set_cons_succ]
  refine wpAnyH_take (i := 9) (oi := ⟨some 19, _, _, _, _, _⟩) (v := ?_) rfl (by kernel_rfl) (by kernel_rfl) (by kernel_rfl) (fun _ _ _ h => h) (Or.inl ⟨by rfl, ?_⟩) (by assumption) ?_
  rotate_left
  · (intro w hSw; (try dsimp only at hSw); go_simp; try with_reducible rfl)
  simp only [Act.put, List.setIfInBounds_toArray, List.set_cons_zero, List.set_cons_succ]
  refine wpAnyH_take (i := 10) (oi := ⟨some 20, _, _, _, _, _⟩) (v := ?_) rfl (by kernel_rfl) (by kernel_rfl) (by kernel_rfl) (fun _ _ _ h => h) (Or.inl ⟨by rfl, ?_⟩) (by assumption) ?_
  rotate_left
  · (intro w hSw; (try dsimp only at hSw); go_simp; try with_reducible rfl)
  simp only [Act.put, List.setIfInBounds_toArray, List.set_cons_zero, List.set_cons_succ]
  refine wpAnyH_ready (rs := [2]) (by kernel_rfl) (by simp) ?_
  refine AllReadyH.cons (o := ⟨some 12, _, _, _, _, _⟩) rfl (fun K hK => ?_) AllReadyH.nil
  go_simp
  go_at_call 17; refine (HRD.out _).mono ?_; rintro e w' ⟨rfl, md, rfl⟩
  refine hK.out _ _ (by (try dsimp only); exact ⟨n1, n2, n3, n4⟩) ?_
  clear hK K hHeld
  intro hHeld
  try simp only [Act.put, List.setIfInBounds_toArray, List.set_cons_zero, List.set_cons_succ]
  refine wpAnyH_ready (rs := [5]) (by kernel_rfl) (by simp) ?_
  refine AllReadyH.cons (o := ⟨some 15, _, _, _, _, _⟩) rfl (fun K hK => ?_) AllReadyH.nil
  go_simp
  go_at_call 17; refine (HRN.out _).mono ?_; rintro e w' ⟨rfl, mn, rfl⟩
  refine hK.out _ _ (by (try dsimp only); exact ⟨n1, n2, n3, n4⟩) ?_
  clear hK K hHeld
  intro hHeld
  try simp only [Act.put, List.setIfInBounds_toArray, List.set_cons_zero, List.set_cons_succ]
  refine wpAnyH_ready (rs := [8]) (by kernel_rfl) (by simp) ?_
  refine AllReadyH.cons (o := ⟨some 18, _, _, _, _, _⟩) rfl (fun K hK => ?_) AllReadyH.nil
  go_simp
  go_at_call 17; refine (HRM.out _).mono ?_; rintro e w' ⟨rfl, mm, rfl⟩
  refine hK.out _ _ (by (try dsimp only); exact ⟨n1, n2, n3, n4⟩) ?_
  clear hK K hHeld
  intro hHeld
  try simp only [Act.put, List.setIfInBounds_toArray, List.set_cons_zero, List.set_cons_succ]
  refine wpAnyH_ready (rs := [11]) (by kernel_rfl) (by simp) ?_
  refine AllReadyH.cons (o := ⟨some 21, _, _, _, _, _⟩) rfl (fun K hK => ?_) AllReadyH.nil
  go_simp
  go_at_call 19; refine (HII.out _).mono ?_; rintro e w' ⟨rfl, mimm, rfl⟩
  refine hK.out _ _ (by (try dsimp only); exact ⟨n1, n2, n3, n4⟩) ?_
  clear hK K hHeld
  intro hHeld
  try simp only [Act.put, List.setIfInBounds_toArray, List.set_cons_zero, List.set_cons_succ]
  refine wpAnyH_take (i := 12) (oi := ⟨some 22, _, _, _, _, _⟩) (v := ?_) rfl (by kernel_rfl) (by kernel_rfl) (by kernel_rfl) (fun _ _ _ h => h) (Or.inl ⟨by rfl, ?_⟩) (by assumption) ?_
  rotate_left
  · (intro w hSw; (try dsimp only at hSw); go_simp; try with_reducible rfl)
  simp only [Act.put, List.setIfInBounds_toArray, List.set_cons_zero, List.set_cons_succ]
  refine wpAnyH_take (i := 13) (oi := ⟨some 3, _, _, _, _, _⟩) (v := ?_) rfl (by kernel_rfl) (by kernel_rfl) (by kernel_rfl) (fun _ _ _ h => h) (Or.inl ⟨by rfl, ?_⟩) (by assumption) ?_
  rotate_left
  · (intro w hSw; (try dsimp only at hSw); go_simp; try with_reducible rfl)
  simp only [Act.put, List.setIfInBounds_toArray, List.set_cons_zero, List.set_cons_succ]
  refine wpAnyH_take (i := 14) (oi := ⟨some 4, _, _, _, _, _⟩) (v := ?_) rfl (by kernel_rfl) (by kernel_rfl) (by kernel_rfl) (fun _ _ _ h => h) (Or.inl ⟨by rfl, ?_⟩) (by assumption) ?_
  rotate_left
  · (intro w hSw; (try dsimp only at hSw); go_simp; try with_reducible rfl)
  simp only [Act.put, List.setIfInBounds_toArray, List.set_cons_zero, List.set_cons_succ]
  refine wpAnyH_take (i := 15) (oi := ⟨some 5, _, _, _, _, _⟩) (v := ?_) rfl (by kernel_rfl) (by kernel_rfl) (by kernel_rfl) (fun _ _ _ h => h) (Or.inl ⟨by rfl, ?_⟩) (by assumption) ?_
  rotate_left
  · (intro w hSw; (try dsimp only at hSw); go_simp; try with_reducible rfl)
  simp only [Act.put, List.setIfInBounds_toArray, List.set_cons_zero, List.set_cons_succ]
  refine wpAnyH_take (i := 16) (oi := ⟨some 6, _, _, _, _, _⟩) (v := ?_) rfl (by kernel_rfl) (by kernel_rfl) (by kernel_rfl) (fun _ _ _ h => h) (Or.inl ⟨by rfl, ?_⟩) (by assumption) ?_
  rotate_left
  · (intro w hSw; (try dsimp only at hSw); go_simp; try with_reducible rfl)
  simp only [Act.put, List.setIfInBounds_toArray, List.set_cons_zero, List.set_cons_succ]
  refine wpAnyH_done (by kernel_rfl) ?_ _
  clear hHeld
  have hopB : opB op = true := decide_eq_true hop
  rcases opB_cases hopB with rfl | rfl | rfl | rfl | rfl | rfl | rfl | rfl | rfl | rfl | rfl | rfl | rfl | rfl | rfl | rfl | rfl | rfl | rfl | rfl | rfl | rfl | rfl
  · skip
    have HX := Lib.hid (show printA 1 d n m imm kind = ([78, 79, 80] : List UInt8) by rw [HP.out]; unfold textA; simp [nameL])
    go_wp2_with fail
    refine (aname_1 _).mono ?_
    rintro e w' ⟨rfl, rfl⟩
    go_wp2_with fail
    go_ret
    exact ⟨by rw [HX.out]; rfl, by repeat (first | exact HB2.out | refine below_drewN ?_ _ | refine Below.drew ?_)⟩
  · skip
    by_cases hz : imm = 0
    · subst hz
      obtain ⟨A1, hA1⟩ : ∃ A : List UInt8, A = [76, 68, 82, 32] ++ (regL d) := ⟨_, rfl⟩
      have hcat1 : ∀ wx : World, (Op.stringOp .add ({ data := #[76, 68, 82] } ++ { data := #[32] } : ByteArray) (ba (regL d))).run Try.prog wx = .ok (.string (ba A1)) wx := by
        have hq : ({ data := #[76, 68, 82] } ++ { data := #[32] } : ByteArray) = ba [76, 68, 82, 32] := by kernel_rfl
        rw [hq]
        exact cat_bb (P := Try.prog) _ _ A1 hA1 (by simp; omega)
      obtain ⟨A2, hA2⟩ : ∃ A : List UInt8, A = A1 ++ [44, 91] := ⟨_, rfl⟩
      have hcat2 : ∀ wx : World, (Op.stringOp .add (ba A1) { data := #[44, 91] }).run Try.prog wx = .ok (.string (ba A2)) wx := cat_bb (P := Try.prog) _ _ A2 hA2 (by rw [hA1]; simp; omega)
      obtain ⟨A3, hA3⟩ : ∃ A : List UInt8, A = A2 ++ (regL n) := ⟨_, rfl⟩
      have hcat3 : ∀ wx : World, (Op.stringOp .add (ba A2) (ba (regL n))).run Try.prog wx = .ok (.string (ba A3)) wx := cat_bb (P := Try.prog) _ _ A3 hA3 (by rw [hA2]; rw [hA1]; simp; omega)
      obtain ⟨A4, hA4⟩ : ∃ A : List UInt8, A = A3 ++ [93] := ⟨_, rfl⟩
      have hcat4 : ∀ wx : World, (Op.stringOp .add (ba A3) { data := #[93] }).run Try.prog wx = .ok (.string (ba A4)) wx := cat_bb (P := Try.prog) _ _ A4 hA4 (by rw [hA3]; rw [hA2]; rw [hA1]; simp; omega)
      have HX := Lib.hid (show printA 2 d n m 0 kind = A4 by rw [HP.out, hA4, hA3, hA2, hA1]; unfold textA; simp [nameL])
      clear hA1 hA2 hA3 hA4
      go_wp2_with fail
      refine (aname_2 _).mono ?_
      rintro e w' ⟨rfl, rfl⟩
      go_wp2_with fail
      go_ret
      exact ⟨by rw [HX.out]; rfl, by repeat (first | exact HB2.out | refine below_drewN ?_ _ | refine Below.drew ?_)⟩
    · have hzb : (imm == 0) = false := beq_eq_false_iff_ne.2 hz
      obtain ⟨A1, hA1⟩ : ∃ A : List UInt8, A = [76, 68, 82, 32] ++ (regL d) := ⟨_, rfl⟩
      have hcat1 : ∀ wx : World, (Op.stringOp .add ({ data := #[76, 68, 82] } ++ { data := #[32] } : ByteArray) (ba (regL d))).run Try.prog wx = .ok (.string (ba A1)) wx := by
        have hq : ({ data := #[76, 68, 82] } ++ { data := #[32] } : ByteArray) = ba [76, 68, 82, 32] := by kernel_rfl
        rw [hq]
        exact cat_bb (P := Try.prog) _ _ A1 hA1 (by simp; omega)
      obtain ⟨A2, hA2⟩ : ∃ A : List UInt8, A = A1 ++ [44, 91] := ⟨_, rfl⟩
      have hcat2 : ∀ wx : World, (Op.stringOp .add (ba A1) { data := #[44, 91] }).run Try.prog wx = .ok (.string (ba A2)) wx := cat_bb (P := Try.prog) _ _ A2 hA2 (by rw [hA1]; simp; omega)
      obtain ⟨A3, hA3⟩ : ∃ A : List UInt8, A = A2 ++ (regL n) := ⟨_, rfl⟩
      have hcat3 : ∀ wx : World, (Op.stringOp .add (ba A2) (ba (regL n))).run Try.prog wx = .ok (.string (ba A3)) wx := cat_bb (P := Try.prog) _ _ A3 hA3 (by rw [hA2]; rw [hA1]; simp; omega)
      obtain ⟨A4, hA4⟩ : ∃ A : List UInt8, A = A3 ++ [44] := ⟨_, rfl⟩
      have hcat4 : ∀ wx : World, (Op.stringOp .add (ba A3) { data := #[44] }).run Try.prog wx = .ok (.string (ba A4)) wx := cat_bb (P := Try.prog) _ _ A4 hA4 (by rw [hA3]; rw [hA2]; rw [hA1]; simp; omega)
      obtain ⟨A5, hA5⟩ : ∃ A : List UInt8, A = A4 ++ I := ⟨_, rfl⟩
      have hcat5 : ∀ wx : World, (Op.stringOp .add (ba A4) (ba I)).run Try.prog wx = .ok (.string (ba A5)) wx := cat_bb (P := Try.prog) _ _ A5 hA5 (by rw [hA4]; rw [hA3]; rw [hA2]; rw [hA1]; simp; omega)
      obtain ⟨A6, hA6⟩ : ∃ A : List UInt8, A = A5 ++ [93] := ⟨_, rfl⟩
      have hcat6 : ∀ wx : World, (Op.stringOp .add (ba A5) { data := #[93] }).run Try.prog wx = .ok (.string (ba A6)) wx := cat_bb (P := Try.prog) _ _ A6 hA6 (by rw [hA5]; rw [hA4]; rw [hA3]; rw [hA2]; rw [hA1]; simp; omega)
      have HX := Lib.hid (show printA 2 d n m imm kind = A6 by rw [HP.out, hA6, hA5, hA4, hA3, hA2, hA1]; unfold textA; simp [nameL, hz, HIM.out])
      clear hA1 hA2 hA3 hA4 hA5 hA6
      go_wp2_with fail
      refine (aname_2 _).mono ?_
      rintro e w' ⟨rfl, rfl⟩
      go_wp2_with fail
      go_ret
      exact ⟨by rw [HX.out]; rfl, by repeat (first | exact HB2.out | refine below_drewN ?_ _ | refine Below.drew ?_)⟩
  · skip
    by_cases hz : imm = 0
    · subst hz
      obtain ⟨A1, hA1⟩ : ∃ A : List UInt8, A = [83, 84, 82, 32] ++ (regL d) := ⟨_, rfl⟩
      have hcat1 : ∀ wx : World, (Op.stringOp .add ({ data := #[83, 84, 82] } ++ { data := #[32] } : ByteArray) (ba (regL d))).run Try.prog wx = .ok (.string (ba A1)) wx := by
        have hq : ({ data := #[83, 84, 82] } ++ { data := #[32] } : ByteArray) = ba [83, 84, 82, 32] := by kernel_rfl
        rw [hq]
        exact cat_bb (P := Try.prog) _ _ A1 hA1 (by simp; omega)
      obtain ⟨A2, hA2⟩ : ∃ A : List UInt8, A = A1 ++ [44, 91] := ⟨_, rfl⟩
      have hcat2 : ∀ wx : World, (Op.stringOp .add (ba A1) { data := #[44, 91] }).run Try.prog wx = .ok (.string (ba A2)) wx := cat_bb (P := Try.prog) _ _ A2 hA2 (by rw [hA1]; simp; omega)
      obtain ⟨A3, hA3⟩ : ∃ A : List UInt8, A = A2 ++ (regL n) := ⟨_, rfl⟩
      have hcat3 : ∀ wx : World, (Op.stringOp .add (ba A2) (ba (regL n))).run Try.prog wx = .ok (.string (ba A3)) wx := cat_bb (P := Try.prog) _ _ A3 hA3 (by rw [hA2]; rw [hA1]; simp; omega)
      obtain ⟨A4, hA4⟩ : ∃ A : List UInt8, A = A3 ++ [93] := ⟨_, rfl⟩
      have hcat4 : ∀ wx : World, (Op.stringOp .add (ba A3) { data := #[93] }).run Try.prog wx = .ok (.string (ba A4)) wx := cat_bb (P := Try.prog) _ _ A4 hA4 (by rw [hA3]; rw [hA2]; rw [hA1]; simp; omega)
      have HX := Lib.hid (show printA 3 d n m 0 kind = A4 by rw [HP.out, hA4, hA3, hA2, hA1]; unfold textA; simp [nameL])
      clear hA1 hA2 hA3 hA4
      go_wp2_with fail
      refine (aname_3 _).mono ?_
      rintro e w' ⟨rfl, rfl⟩
      go_wp2_with fail
      go_ret
      exact ⟨by rw [HX.out]; rfl, by repeat (first | exact HB2.out | refine below_drewN ?_ _ | refine Below.drew ?_)⟩
    · have hzb : (imm == 0) = false := beq_eq_false_iff_ne.2 hz
      obtain ⟨A1, hA1⟩ : ∃ A : List UInt8, A = [83, 84, 82, 32] ++ (regL d) := ⟨_, rfl⟩
      have hcat1 : ∀ wx : World, (Op.stringOp .add ({ data := #[83, 84, 82] } ++ { data := #[32] } : ByteArray) (ba (regL d))).run Try.prog wx = .ok (.string (ba A1)) wx := by
        have hq : ({ data := #[83, 84, 82] } ++ { data := #[32] } : ByteArray) = ba [83, 84, 82, 32] := by kernel_rfl
        rw [hq]
        exact cat_bb (P := Try.prog) _ _ A1 hA1 (by simp; omega)
      obtain ⟨A2, hA2⟩ : ∃ A : List UInt8, A = A1 ++ [44, 91] := ⟨_, rfl⟩
      have hcat2 : ∀ wx : World, (Op.stringOp .add (ba A1) { data := #[44, 91] }).run Try.prog wx = .ok (.string (ba A2)) wx := cat_bb (P := Try.prog) _ _ A2 hA2 (by rw [hA1]; simp; omega)
      obtain ⟨A3, hA3⟩ : ∃ A : List UInt8, A = A2 ++ (regL n) := ⟨_, rfl⟩
      have hcat3 : ∀ wx : World, (Op.stringOp .add (ba A2) (ba (regL n))).run Try.prog wx = .ok (.string (ba A3)) wx := cat_bb (P := Try.prog) _ _ A3 hA3 (by rw [hA2]; rw [hA1]; simp; omega)
      obtain ⟨A4, hA4⟩ : ∃ A : List UInt8, A = A3 ++ [44] := ⟨_, rfl⟩
      have hcat4 : ∀ wx : World, (Op.stringOp .add (ba A3) { data := #[44] }).run Try.prog wx = .ok (.string (ba A4)) wx := cat_bb (P := Try.prog) _ _ A4 hA4 (by rw [hA3]; rw [hA2]; rw [hA1]; simp; omega)
      obtain ⟨A5, hA5⟩ : ∃ A : List UInt8, A = A4 ++ I := ⟨_, rfl⟩
      have hcat5 : ∀ wx : World, (Op.stringOp .add (ba A4) (ba I)).run Try.prog wx = .ok (.string (ba A5)) wx := cat_bb (P := Try.prog) _ _ A5 hA5 (by rw [hA4]; rw [hA3]; rw [hA2]; rw [hA1]; simp; omega)
      obtain ⟨A6, hA6⟩ : ∃ A : List UInt8, A = A5 ++ [93] := ⟨_, rfl⟩
      have hcat6 : ∀ wx : World, (Op.stringOp .add (ba A5) { data := #[93] }).run Try.prog wx = .ok (.string (ba A6)) wx := cat_bb (P := Try.prog) _ _ A6 hA6 (by rw [hA5]; rw [hA4]; rw [hA3]; rw [hA2]; rw [hA1]; simp; omega)
      have HX := Lib.hid (show printA 3 d n m imm kind = A6 by rw [HP.out, hA6, hA5, hA4, hA3, hA2, hA1]; unfold textA; simp [nameL, hz, HIM.out])
      clear hA1 hA2 hA3 hA4 hA5 hA6
      go_wp2_with fail
      refine (aname_3 _).mono ?_
      rintro e w' ⟨rfl, rfl⟩
      go_wp2_with fail
      go_ret
      exact ⟨by rw [HX.out]; rfl, by repeat (first | exact HB2.out | refine below_drewN ?_ _ | refine Below.drew ?_)⟩
  · skip
    obtain ⟨A1, hA1⟩ : ∃ A : List UInt8, A = [76, 68, 65, 82, 32] ++ (regL d) := ⟨_, rfl⟩
    have hcat1 : ∀ wx : World, (Op.stringOp .add ({ data := #[76, 68, 65, 82] } ++ { data := #[32] } : ByteArray) (ba (regL d))).run Try.prog wx = .ok (.string (ba A1)) wx := by
      have hq : ({ data := #[76, 68, 65, 82] } ++ { data := #[32] } : ByteArray) = ba [76, 68, 65, 82, 32] := by kernel_rfl
      rw [hq]
      exact cat_bb (P := Try.prog) _ _ A1 hA1 (by simp; omega)
    obtain ⟨A2, hA2⟩ : ∃ A : List UInt8, A = A1 ++ [44, 91] := ⟨_, rfl⟩
    have hcat2 : ∀ wx : World, (Op.stringOp .add (ba A1) { data := #[44, 91] }).run Try.prog wx = .ok (.string (ba A2)) wx := cat_bb (P := Try.prog) _ _ A2 hA2 (by rw [hA1]; simp; omega)
    obtain ⟨A3, hA3⟩ : ∃ A : List UInt8, A = A2 ++ (regL n) := ⟨_, rfl⟩
    have hcat3 : ∀ wx : World, (Op.stringOp .add (ba A2) (ba (regL n))).run Try.prog wx = .ok (.string (ba A3)) wx := cat_bb (P := Try.prog) _ _ A3 hA3 (by rw [hA2]; rw [hA1]; simp; omega)
    obtain ⟨A4, hA4⟩ : ∃ A : List UInt8, A = A3 ++ [93] := ⟨_, rfl⟩
    have hcat4 : ∀ wx : World, (Op.stringOp .add (ba A3) { data := #[93] }).run Try.prog wx = .ok (.string (ba A4)) wx := cat_bb (P := Try.prog) _ _ A4 hA4 (by rw [hA3]; rw [hA2]; rw [hA1]; simp; omega)
    have HX := Lib.hid (show printA 4 d n m imm kind = A4 by rw [HP.out, hA4, hA3, hA2, hA1]; unfold textA; simp [nameL])
    clear hA1 hA2 hA3 hA4
    go_wp2_with fail
    refine (aname_4 _).mono ?_
    rintro e w' ⟨rfl, rfl⟩
    go_wp2_with fail
    go_ret
    exact ⟨by rw [HX.out]; rfl, by repeat (first | exact HB2.out | refine below_drewN ?_ _ | refine Below.drew ?_)⟩
  · skip
    obtain ⟨A1, hA1⟩ : ∃ A : List UInt8, A = [83, 84, 76, 82, 32] ++ (regL d) := ⟨_, rfl⟩
    have hcat1 : ∀ wx : World, (Op.stringOp .add ({ data := #[83, 84, 76, 82] } ++ { data := #[32] } : ByteArray) (ba (regL d))).run Try.prog wx = .ok (.string (ba A1)) wx := by
      have hq : ({ data := #[83, 84, 76, 82] } ++ { data := #[32] } : ByteArray) = ba [83, 84, 76, 82, 32] := by kernel_rfl
      rw [hq]
      exact cat_bb (P := Try.prog) _ _ A1 hA1 (by simp; omega)
    obtain ⟨A2, hA2⟩ : ∃ A : List UInt8, A = A1 ++ [44, 91] := ⟨_, rfl⟩
    have hcat2 : ∀ wx : World, (Op.stringOp .add (ba A1) { data := #[44, 91] }).run Try.prog wx = .ok (.string (ba A2)) wx := cat_bb (P := Try.prog) _ _ A2 hA2 (by rw [hA1]; simp; omega)
    obtain ⟨A3, hA3⟩ : ∃ A : List UInt8, A = A2 ++ (regL n) := ⟨_, rfl⟩
    have hcat3 : ∀ wx : World, (Op.stringOp .add (ba A2) (ba (regL n))).run Try.prog wx = .ok (.string (ba A3)) wx := cat_bb (P := Try.prog) _ _ A3 hA3 (by rw [hA2]; rw [hA1]; simp; omega)
    obtain ⟨A4, hA4⟩ : ∃ A : List UInt8, A = A3 ++ [93] := ⟨_, rfl⟩
    have hcat4 : ∀ wx : World, (Op.stringOp .add (ba A3) { data := #[93] }).run Try.prog wx = .ok (.string (ba A4)) wx := cat_bb (P := Try.prog) _ _ A4 hA4 (by rw [hA3]; rw [hA2]; rw [hA1]; simp; omega)
    have HX := Lib.hid (show printA 5 d n m imm kind = A4 by rw [HP.out, hA4, hA3, hA2, hA1]; unfold textA; simp [nameL])
    clear hA1 hA2 hA3 hA4
    go_wp2_with fail
    refine (aname_5 _).mono ?_
    rintro e w' ⟨rfl, rfl⟩
    go_wp2_with fail
    go_ret
    exact ⟨by rw [HX.out]; rfl, by repeat (first | exact HB2.out | refine below_drewN ?_ _ | refine Below.drew ?_)⟩
  · skip
    by_cases hz : kind = 0
    · subst hz
      obtain ⟨A1, hA1⟩ : ∃ A : List UInt8, A = [77, 79, 86, 32] ++ (regL d) := ⟨_, rfl⟩
      have hcat1 : ∀ wx : World, (Op.stringOp .add ({ data := #[77, 79, 86, 32] } : ByteArray) (ba (regL d))).run Try.prog wx = .ok (.string (ba A1)) wx := cat_bb (P := Try.prog) _ _ A1 hA1 (by simp; omega)
      obtain ⟨A2, hA2⟩ : ∃ A : List UInt8, A = A1 ++ [44] := ⟨_, rfl⟩
      have hcat2 : ∀ wx : World, (Op.stringOp .add (ba A1) { data := #[44] }).run Try.prog wx = .ok (.string (ba A2)) wx := cat_bb (P := Try.prog) _ _ A2 hA2 (by rw [hA1]; simp; omega)
      obtain ⟨A3, hA3⟩ : ∃ A : List UInt8, A = A2 ++ I := ⟨_, rfl⟩
      have hcat3 : ∀ wx : World, (Op.stringOp .add (ba A2) (ba I)).run Try.prog wx = .ok (.string (ba A3)) wx := cat_bb (P := Try.prog) _ _ A3 hA3 (by rw [hA2]; rw [hA1]; simp; omega)
      have HX := Lib.hid (show printA 6 d n m imm 0 = A3 by rw [HP.out, hA3, hA2, hA1]; unfold textA; simp [HIM.out])
      clear hA1 hA2 hA3
      go_wp2_with fail
      go_ret
      exact ⟨by rw [HX.out]; rfl, by repeat (first | exact HB2.out | refine below_drewN ?_ _ | refine Below.drew ?_)⟩
    · have hzb : (kind == 0) = false := beq_eq_false_iff_ne.2 hz
      have hk3 : 0 ≤ kind ∧ kind ≤ 3 := by have := HRC.out; unfold rightC at this; omega
      have hw16 : IntKind.i64.wrap (16 * kind) = 16 * kind := IntWalk.i64_in _ (by omega)
      have HK := Lib.hid (fun w1 => int_any (16 * kind) w1 (by omega))
      have bK := intL_len (16 * kind) (by omega)
      obtain ⟨A1, hA1⟩ : ∃ A : List UInt8, A = [77, 79, 86, 90, 32] ++ (regL d) := ⟨_, rfl⟩
      have hcat1 : ∀ wx : World, (Op.stringOp .add ({ data := #[77, 79, 86, 90, 32] } : ByteArray) (ba (regL d))).run Try.prog wx = .ok (.string (ba A1)) wx := cat_bb (P := Try.prog) _ _ A1 hA1 (by simp; omega)
      obtain ⟨A2, hA2⟩ : ∃ A : List UInt8, A = A1 ++ [44] := ⟨_, rfl⟩
      have hcat2 : ∀ wx : World, (Op.stringOp .add (ba A1) { data := #[44] }).run Try.prog wx = .ok (.string (ba A2)) wx := cat_bb (P := Try.prog) _ _ A2 hA2 (by rw [hA1]; simp; omega)
      obtain ⟨A3, hA3⟩ : ∃ A : List UInt8, A = A2 ++ I := ⟨_, rfl⟩
      have hcat3 : ∀ wx : World, (Op.stringOp .add (ba A2) (ba I)).run Try.prog wx = .ok (.string (ba A3)) wx := cat_bb (P := Try.prog) _ _ A3 hA3 (by rw [hA2]; rw [hA1]; simp; omega)
      obtain ⟨A4, hA4⟩ : ∃ A : List UInt8, A = A3 ++ [44, 76, 83, 76, 32, 35] := ⟨_, rfl⟩
      have hcat4 : ∀ wx : World, (Op.stringOp .add (ba A3) { data := #[44, 76, 83, 76, 32, 35] }).run Try.prog wx = .ok (.string (ba A4)) wx := cat_bb (P := Try.prog) _ _ A4 hA4 (by rw [hA3]; rw [hA2]; rw [hA1]; simp; omega)
      obtain ⟨A5, hA5⟩ : ∃ A : List UInt8, A = A4 ++ (intL (16 * kind)) := ⟨_, rfl⟩
      have hcat5 : ∀ wx : World, (Op.stringOp .add (ba A4) (ba (intL (16 * kind)))).run Try.prog wx = .ok (.string (ba A5)) wx := cat_bb (P := Try.prog) _ _ A5 hA5 (by rw [hA4]; rw [hA3]; rw [hA2]; rw [hA1]; simp; omega)
      have HX := Lib.hid (show printA 6 d n m imm kind = A5 by rw [HP.out, hA5, hA4, hA3, hA2, hA1]; unfold textA; simp [hz, HIM.out])
      clear hA1 hA2 hA3 hA4 hA5
      go_wp2_with fail
      refine (HK.out _).mono ?_
      rintro e w' ⟨rfl, mk, rfl⟩
      go_wp2_with fail
      go_ret
      exact ⟨by rw [HX.out]; rfl, by repeat (first | exact HB2.out | refine below_drewN ?_ _ | refine Below.drew ?_)⟩
  · skip
    obtain ⟨A1, hA1⟩ : ∃ A : List UInt8, A = [65, 68, 68, 32] ++ (regL d) := ⟨_, rfl⟩
    have hcat1 : ∀ wx : World, (Op.stringOp .add ({ data := #[65, 68, 68, 32] } : ByteArray) (ba (regL d))).run Try.prog wx = .ok (.string (ba A1)) wx := cat_bb (P := Try.prog) _ _ A1 hA1 (by simp; omega)
    obtain ⟨A2, hA2⟩ : ∃ A : List UInt8, A = A1 ++ [44] := ⟨_, rfl⟩
    have hcat2 : ∀ wx : World, (Op.stringOp .add (ba A1) { data := #[44] }).run Try.prog wx = .ok (.string (ba A2)) wx := cat_bb (P := Try.prog) _ _ A2 hA2 (by rw [hA1]; simp; omega)
    obtain ⟨A3, hA3⟩ : ∃ A : List UInt8, A = A2 ++ (regL n) := ⟨_, rfl⟩
    have hcat3 : ∀ wx : World, (Op.stringOp .add (ba A2) (ba (regL n))).run Try.prog wx = .ok (.string (ba A3)) wx := cat_bb (P := Try.prog) _ _ A3 hA3 (by rw [hA2]; rw [hA1]; simp; omega)
    obtain ⟨A4, hA4⟩ : ∃ A : List UInt8, A = A3 ++ [44] := ⟨_, rfl⟩
    have hcat4 : ∀ wx : World, (Op.stringOp .add (ba A3) { data := #[44] }).run Try.prog wx = .ok (.string (ba A4)) wx := cat_bb (P := Try.prog) _ _ A4 hA4 (by rw [hA3]; rw [hA2]; rw [hA1]; simp; omega)
    obtain ⟨A5, hA5⟩ : ∃ A : List UInt8, A = A4 ++ I := ⟨_, rfl⟩
    have hcat5 : ∀ wx : World, (Op.stringOp .add (ba A4) (ba I)).run Try.prog wx = .ok (.string (ba A5)) wx := cat_bb (P := Try.prog) _ _ A5 hA5 (by rw [hA4]; rw [hA3]; rw [hA2]; rw [hA1]; simp; omega)
    have HX := Lib.hid (show printA 7 d n m imm kind = A5 by rw [HP.out, hA5, hA4, hA3, hA2, hA1]; unfold textA; simp [HIM.out])
    clear hA1 hA2 hA3 hA4 hA5
    go_wp2_with fail
    go_ret
    exact ⟨by rw [HX.out]; rfl, by repeat (first | exact HB2.out | refine below_drewN ?_ _ | refine Below.drew ?_)⟩
  · skip
    have HX := Lib.hid (show printA 8 d n m imm kind = ([65, 68, 68, 32] : List UInt8) ++ regL d ++ [44] ++ regL n ++ [44] ++ regL m by rw [HP.out]; unfold textA; rfl)
    go_wp2_with fail
    refine (rest_8 d n m imm kind _ hi (regL d) (regL n) (regL m) bD bN bM _ HX.out).mono ?_
    rintro e w' ⟨rfl, hb⟩
    go_wp2_with fail
    go_ret
    exact ⟨rfl, below_trans (by repeat (first | exact HB2.out | refine below_drewN ?_ _ | refine Below.drew ?_)) hb⟩
  · skip
    have HX := Lib.hid (show printA 9 d n m imm kind = ([83, 85, 66, 32] : List UInt8) ++ regL d ++ [44] ++ regL n ++ [44] ++ regL m by rw [HP.out]; unfold textA; rfl)
    go_wp2_with fail
    refine (rest_9 d n m imm kind _ hi (regL d) (regL n) (regL m) bD bN bM _ HX.out).mono ?_
    rintro e w' ⟨rfl, hb⟩
    go_wp2_with fail
    go_ret
    exact ⟨rfl, below_trans (by repeat (first | exact HB2.out | refine below_drewN ?_ _ | refine Below.drew ?_)) hb⟩
  · skip
    have HX := Lib.hid (show printA 10 d n m imm kind = ([65, 78, 68, 32] : List UInt8) ++ regL d ++ [44] ++ regL n ++ [44] ++ regL m by rw [HP.out]; unfold textA; rfl)
    go_wp2_with fail
    refine (rest_10 d n m imm kind _ hi (regL d) (regL n) (regL m) bD bN bM _ HX.out).mono ?_
    rintro e w' ⟨rfl, hb⟩
    go_wp2_with fail
    go_ret
    exact ⟨rfl, below_trans (by repeat (first | exact HB2.out | refine below_drewN ?_ _ | refine Below.drew ?_)) hb⟩
  · skip
    have HX := Lib.hid (show printA 11 d n m imm kind = ([79, 82, 82, 32] : List UInt8) ++ regL d ++ [44] ++ regL n ++ [44] ++ regL m by rw [HP.out]; unfold textA; rfl)
    go_wp2_with fail
    refine (rest_11 d n m imm kind _ hi (regL d) (regL n) (regL m) bD bN bM _ HX.out).mono ?_
    rintro e w' ⟨rfl, hb⟩
    go_wp2_with fail
    go_ret
    exact ⟨rfl, below_trans (by repeat (first | exact HB2.out | refine below_drewN ?_ _ | refine Below.drew ?_)) hb⟩
  · skip
    have HX := Lib.hid (show printA 12 d n m imm kind = ([69, 79, 82, 32] : List UInt8) ++ regL d ++ [44] ++ regL n ++ [44] ++ regL m by rw [HP.out]; unfold textA; rfl)
    go_wp2_with fail
    refine (rest_12 d n m imm kind _ hi (regL d) (regL n) (regL m) bD bN bM _ HX.out).mono ?_
    rintro e w' ⟨rfl, hb⟩
    go_wp2_with fail
    go_ret
    exact ⟨rfl, below_trans (by repeat (first | exact HB2.out | refine below_drewN ?_ _ | refine Below.drew ?_)) hb⟩
  · skip
    by_cases h31 : d = 31
    · subst h31
      have HX := Lib.hid (show printA 13 31 n m imm kind = ([67, 77, 80, 32] : List UInt8) ++ regL n ++ [44] ++ regL m by rw [HP.out]; unfold textA; rfl)
      go_wp2_with fail
      refine (rest_13a n m imm kind _ hi (regL 31) (regL n) (regL m) (by decide) bN bM _ HX.out).mono ?_
      rintro e w' ⟨rfl, hb⟩
      go_wp2_with fail
      go_ret
      exact ⟨rfl, below_trans (by repeat (first | exact HB2.out | refine below_drewN ?_ _ | refine Below.drew ?_)) hb⟩
    · have h31b : (d == 31) = false := beq_eq_false_iff_ne.2 h31
      have HX := Lib.hid (show printA 13 d n m imm kind = ([83, 85, 66, 83, 32] : List UInt8) ++ regL d ++ [44] ++ regL n ++ [44] ++ regL m by rw [HP.out]; unfold textA; simp [threeL, nameL, h31])
      go_wp2_with fail
      refine (rest_13b d n m imm kind _ hi h31b (regL d) (regL n) (regL m) bD bN bM _ HX.out).mono ?_
      rintro e w' ⟨rfl, hb⟩
      go_wp2_with fail
      go_ret
      exact ⟨rfl, below_trans (by repeat (first | exact HB2.out | refine below_drewN ?_ _ | refine Below.drew ?_)) hb⟩
  · skip
    obtain ⟨A1, hA1⟩ : ∃ A : List UInt8, A = [66, 32] ++ (targetL imm) := ⟨_, rfl⟩
    have hcat1 : ∀ wx : World, (Op.stringOp .add ({ data := #[66, 32] } : ByteArray) (ba (targetL imm))).run Try.prog wx = .ok (.string (ba A1)) wx := cat_bb (P := Try.prog) _ _ A1 hA1 (by simp; omega)
    have HX := Lib.hid (show printA 14 d n m imm kind = A1 by rw [HP.out, hA1]; unfold textA; simp)
    clear hA1
    go_wp2_with fail
    refine (HTG.out _).mono ?_
    rintro e w' ⟨rfl, mt, rfl⟩
    go_wp2_with fail
    go_ret
    exact ⟨by rw [HX.out]; rfl, by repeat (first | exact HB2.out | refine below_drewN ?_ _ | refine Below.drew ?_)⟩
  · skip
    obtain ⟨A1, hA1⟩ : ∃ A : List UInt8, A = [67, 66, 90, 32] ++ (regL d) := ⟨_, rfl⟩
    have hcat1 : ∀ wx : World, (Op.stringOp .add ({ data := #[67, 66, 90] } ++ { data := #[32] } : ByteArray) (ba (regL d))).run Try.prog wx = .ok (.string (ba A1)) wx := by
      have hq : ({ data := #[67, 66, 90] } ++ { data := #[32] } : ByteArray) = ba [67, 66, 90, 32] := by kernel_rfl
      rw [hq]
      exact cat_bb (P := Try.prog) _ _ A1 hA1 (by simp; omega)
    obtain ⟨A2, hA2⟩ : ∃ A : List UInt8, A = A1 ++ [44] := ⟨_, rfl⟩
    have hcat2 : ∀ wx : World, (Op.stringOp .add (ba A1) { data := #[44] }).run Try.prog wx = .ok (.string (ba A2)) wx := cat_bb (P := Try.prog) _ _ A2 hA2 (by rw [hA1]; simp; omega)
    obtain ⟨A3, hA3⟩ : ∃ A : List UInt8, A = A2 ++ (targetL imm) := ⟨_, rfl⟩
    have hcat3 : ∀ wx : World, (Op.stringOp .add (ba A2) (ba (targetL imm))).run Try.prog wx = .ok (.string (ba A3)) wx := cat_bb (P := Try.prog) _ _ A3 hA3 (by rw [hA2]; rw [hA1]; simp; omega)
    have HX := Lib.hid (show printA 15 d n m imm kind = A3 by rw [HP.out, hA3, hA2, hA1]; unfold textA; simp [nameL])
    clear hA1 hA2 hA3
    go_wp2_with fail
    refine wp_region_held_drew (S := (fun w' => w'.cell? ⟨w.heap.size, 0, none⟩ = some (.int .i64 15) ∧ w'.cell? ⟨w.heap.size, 4, none⟩ = some (.int .i64 imm))) (by kernel_rfl) (by (try dsimp only); exact ⟨n0, n4⟩) (fun hHeld => ?_)
    refine wpAnyH_take (i := 0) (oi := ⟨some 114, _, _, _, _, _⟩) (v := ?_) rfl (by kernel_rfl) (by kernel_rfl) (by kernel_rfl) (fun _ _ _ h => h) (Or.inl ⟨by rfl, ?_⟩) (by assumption) ?_
    rotate_left
    · (intro w hSw; (try dsimp only at hSw); go_simp; try with_reducible rfl)
    simp only [Act.put, List.setIfInBounds_toArray, List.set_cons_zero, List.set_cons_succ]
    refine wpAnyH_take (i := 1) (oi := ⟨some 115, _, _, _, _, _⟩) (v := ?_) rfl (by kernel_rfl) (by kernel_rfl) (by kernel_rfl) (fun _ _ _ h => h) (Or.inl ⟨by rfl, ?_⟩) (by assumption) ?_
    rotate_left
    · (intro w hSw; (try dsimp only at hSw); go_simp; try with_reducible rfl)
    simp only [Act.put, List.setIfInBounds_toArray, List.set_cons_zero, List.set_cons_succ]
    refine wpAnyH_take (i := 4) (oi := ⟨some 118, _, _, _, _, _⟩) (v := ?_) rfl (by kernel_rfl) (by kernel_rfl) (by kernel_rfl) (fun _ _ _ h => h) (Or.inl ⟨by rfl, ?_⟩) (by assumption) ?_
    rotate_left
    · (intro w hSw; (try dsimp only at hSw); go_simp; try with_reducible rfl)
    simp only [Act.put, List.setIfInBounds_toArray, List.set_cons_zero, List.set_cons_succ]
    refine wpAnyH_take (i := 7) (oi := ⟨some 121, _, _, _, _, _⟩) (v := ?_) rfl (by kernel_rfl) (by kernel_rfl) (by kernel_rfl) (fun _ _ _ h => h) (Or.inl ⟨by rfl, ?_⟩) (by assumption) ?_
    rotate_left
    · (intro w hSw; (try dsimp only at hSw); go_simp; try with_reducible rfl)
    simp only [Act.put, List.setIfInBounds_toArray, List.set_cons_zero, List.set_cons_succ]
    refine wpAnyH_take (i := 8) (oi := ⟨some 122, _, _, _, _, _⟩) (v := ?_) rfl (by kernel_rfl) (by kernel_rfl) (by kernel_rfl) (fun _ _ _ h => h) (Or.inl ⟨by rfl, ?_⟩) (by assumption) ?_
    rotate_left
    · (intro w hSw; (try dsimp only at hSw); go_simp; try with_reducible rfl)
    simp only [Act.put, List.setIfInBounds_toArray, List.set_cons_zero, List.set_cons_succ]
    refine wpAnyH_ready (rs := [2]) (by kernel_rfl) (by simp) ?_
    refine AllReadyH.cons (o := ⟨some 116, _, _, _, _, _⟩) rfl (fun K hK => ?_) AllReadyH.nil
    go_simp
    go_at_call 20; refine (aname_15 _).mono ?_; rintro e w' ⟨rfl, rfl⟩
    refine hK.out _ _ (by (try dsimp only); exact ⟨n0, n4⟩) ?_
    clear hK K hHeld
    intro hHeld
    try simp only [Act.put, List.setIfInBounds_toArray, List.set_cons_zero, List.set_cons_succ]
    refine wpAnyH_take (i := 3) (oi := ⟨some 117, _, _, _, _, _⟩) (v := ?_) rfl (by kernel_rfl) (by kernel_rfl) (by kernel_rfl) (fun _ _ _ h => h) (Or.inl ⟨by rfl, ?_⟩) (by assumption) ?_
    rotate_left
    · (intro w hSw; (try dsimp only at hSw); go_simp; try with_reducible rfl)
    simp only [Act.put, List.setIfInBounds_toArray, List.set_cons_zero, List.set_cons_succ]
    refine wpAnyH_take (i := 5) (oi := ⟨some 119, _, _, _, _, _⟩) (v := ?_) rfl (by kernel_rfl) (by kernel_rfl) (by kernel_rfl) (fun _ _ _ h => h) (Or.inl ⟨by rfl, ?_⟩) (by assumption) ?_
    rotate_left
    · (intro w hSw; (try dsimp only at hSw); go_simp; try with_reducible rfl)
    simp only [Act.put, List.setIfInBounds_toArray, List.set_cons_zero, List.set_cons_succ]
    refine wpAnyH_take (i := 6) (oi := ⟨some 120, _, _, _, _, _⟩) (v := ?_) rfl (by kernel_rfl) (by kernel_rfl) (by kernel_rfl) (fun _ _ _ h => h) (Or.inl ⟨by rfl, ?_⟩) (by assumption) ?_
    rotate_left
    · (intro w hSw; (try dsimp only at hSw); go_simp; try with_reducible rfl)
    simp only [Act.put, List.setIfInBounds_toArray, List.set_cons_zero, List.set_cons_succ]
    refine wpAnyH_ready (rs := [9]) (by kernel_rfl) (by simp) ?_
    refine AllReadyH.cons (o := ⟨some 123, _, _, _, _, _⟩) rfl (fun K hK => ?_) AllReadyH.nil
    go_simp
    go_at_call 21; refine (HTG.out _).mono ?_; rintro e w' ⟨rfl, mt, rfl⟩
    refine hK.out _ _ (by (try dsimp only); exact ⟨n0, n4⟩) ?_
    clear hK K hHeld
    intro hHeld
    try simp only [Act.put, List.setIfInBounds_toArray, List.set_cons_zero, List.set_cons_succ]
    refine wpAnyH_take (i := 10) (oi := ⟨some 124, _, _, _, _, _⟩) (v := ?_) rfl (by kernel_rfl) (by kernel_rfl) (by kernel_rfl) (fun _ _ _ h => h) (Or.inl ⟨by rfl, ?_⟩) (by assumption) ?_
    rotate_left
    · (intro w hSw; (try dsimp only at hSw); go_simp; try with_reducible rfl)
    simp only [Act.put, List.setIfInBounds_toArray, List.set_cons_zero, List.set_cons_succ]
    refine wpAnyH_take (i := 11) (oi := ⟨some 2, _, _, _, _, _⟩) (v := ?_) rfl (by kernel_rfl) (by kernel_rfl) (by kernel_rfl) (fun _ _ _ h => h) (Or.inl ⟨by rfl, ?_⟩) (by assumption) ?_
    rotate_left
    · (intro w hSw; (try dsimp only at hSw); go_simp; try with_reducible rfl)
    simp only [Act.put, List.setIfInBounds_toArray, List.set_cons_zero, List.set_cons_succ]
    refine wpAnyH_done (by kernel_rfl) ?_ _
    go_wp2_with fail
    go_ret
    exact ⟨by rw [HX.out]; rfl, by repeat (first | exact HB2.out | refine below_drewN ?_ _ | refine Below.drew ?_)⟩
  · skip
    obtain ⟨A1, hA1⟩ : ∃ A : List UInt8, A = [67, 66, 78, 90, 32] ++ (regL d) := ⟨_, rfl⟩
    have hcat1 : ∀ wx : World, (Op.stringOp .add ({ data := #[67, 66, 78, 90] } ++ { data := #[32] } : ByteArray) (ba (regL d))).run Try.prog wx = .ok (.string (ba A1)) wx := by
      have hq : ({ data := #[67, 66, 78, 90] } ++ { data := #[32] } : ByteArray) = ba [67, 66, 78, 90, 32] := by kernel_rfl
      rw [hq]
      exact cat_bb (P := Try.prog) _ _ A1 hA1 (by simp; omega)
    obtain ⟨A2, hA2⟩ : ∃ A : List UInt8, A = A1 ++ [44] := ⟨_, rfl⟩
    have hcat2 : ∀ wx : World, (Op.stringOp .add (ba A1) { data := #[44] }).run Try.prog wx = .ok (.string (ba A2)) wx := cat_bb (P := Try.prog) _ _ A2 hA2 (by rw [hA1]; simp; omega)
    obtain ⟨A3, hA3⟩ : ∃ A : List UInt8, A = A2 ++ (targetL imm) := ⟨_, rfl⟩
    have hcat3 : ∀ wx : World, (Op.stringOp .add (ba A2) (ba (targetL imm))).run Try.prog wx = .ok (.string (ba A3)) wx := cat_bb (P := Try.prog) _ _ A3 hA3 (by rw [hA2]; rw [hA1]; simp; omega)
    have HX := Lib.hid (show printA 16 d n m imm kind = A3 by rw [HP.out, hA3, hA2, hA1]; unfold textA; simp [nameL])
    clear hA1 hA2 hA3
    go_wp2_with fail
    refine wp_region_held_drew (S := (fun w' => w'.cell? ⟨w.heap.size, 0, none⟩ = some (.int .i64 16) ∧ w'.cell? ⟨w.heap.size, 4, none⟩ = some (.int .i64 imm))) (by kernel_rfl) (by (try dsimp only); exact ⟨n0, n4⟩) (fun hHeld => ?_)
    refine wpAnyH_take (i := 0) (oi := ⟨some 114, _, _, _, _, _⟩) (v := ?_) rfl (by kernel_rfl) (by kernel_rfl) (by kernel_rfl) (fun _ _ _ h => h) (Or.inl ⟨by rfl, ?_⟩) (by assumption) ?_
    rotate_left
    · (intro w hSw; (try dsimp only at hSw); go_simp; try with_reducible rfl)
    simp only [Act.put, List.setIfInBounds_toArray, List.set_cons_zero, List.set_cons_succ]
    refine wpAnyH_take (i := 1) (oi := ⟨some 115, _, _, _, _, _⟩) (v := ?_) rfl (by kernel_rfl) (by kernel_rfl) (by kernel_rfl) (fun _ _ _ h => h) (Or.inl ⟨by rfl, ?_⟩) (by assumption) ?_
    rotate_left
    · (intro w hSw; (try dsimp only at hSw); go_simp; try with_reducible rfl)
    simp only [Act.put, List.setIfInBounds_toArray, List.set_cons_zero, List.set_cons_succ]
    refine wpAnyH_take (i := 4) (oi := ⟨some 118, _, _, _, _, _⟩) (v := ?_) rfl (by kernel_rfl) (by kernel_rfl) (by kernel_rfl) (fun _ _ _ h => h) (Or.inl ⟨by rfl, ?_⟩) (by assumption) ?_
    rotate_left
    · (intro w hSw; (try dsimp only at hSw); go_simp; try with_reducible rfl)
    simp only [Act.put, List.setIfInBounds_toArray, List.set_cons_zero, List.set_cons_succ]
    refine wpAnyH_take (i := 7) (oi := ⟨some 121, _, _, _, _, _⟩) (v := ?_) rfl (by kernel_rfl) (by kernel_rfl) (by kernel_rfl) (fun _ _ _ h => h) (Or.inl ⟨by rfl, ?_⟩) (by assumption) ?_
    rotate_left
    · (intro w hSw; (try dsimp only at hSw); go_simp; try with_reducible rfl)
    simp only [Act.put, List.setIfInBounds_toArray, List.set_cons_zero, List.set_cons_succ]
    refine wpAnyH_take (i := 8) (oi := ⟨some 122, _, _, _, _, _⟩) (v := ?_) rfl (by kernel_rfl) (by kernel_rfl) (by kernel_rfl) (fun _ _ _ h => h) (Or.inl ⟨by rfl, ?_⟩) (by assumption) ?_
    rotate_left
    · (intro w hSw; (try dsimp only at hSw); go_simp; try with_reducible rfl)
    simp only [Act.put, List.setIfInBounds_toArray, List.set_cons_zero, List.set_cons_succ]
    refine wpAnyH_ready (rs := [2]) (by kernel_rfl) (by simp) ?_
    refine AllReadyH.cons (o := ⟨some 116, _, _, _, _, _⟩) rfl (fun K hK => ?_) AllReadyH.nil
    go_simp
    go_at_call 20; refine (aname_16 _).mono ?_; rintro e w' ⟨rfl, rfl⟩
    refine hK.out _ _ (by (try dsimp only); exact ⟨n0, n4⟩) ?_
    clear hK K hHeld
    intro hHeld
    try simp only [Act.put, List.setIfInBounds_toArray, List.set_cons_zero, List.set_cons_succ]
    refine wpAnyH_take (i := 3) (oi := ⟨some 117, _, _, _, _, _⟩) (v := ?_) rfl (by kernel_rfl) (by kernel_rfl) (by kernel_rfl) (fun _ _ _ h => h) (Or.inl ⟨by rfl, ?_⟩) (by assumption) ?_
    rotate_left
    · (intro w hSw; (try dsimp only at hSw); go_simp; try with_reducible rfl)
    simp only [Act.put, List.setIfInBounds_toArray, List.set_cons_zero, List.set_cons_succ]
    refine wpAnyH_take (i := 5) (oi := ⟨some 119, _, _, _, _, _⟩) (v := ?_) rfl (by kernel_rfl) (by kernel_rfl) (by kernel_rfl) (fun _ _ _ h => h) (Or.inl ⟨by rfl, ?_⟩) (by assumption) ?_
    rotate_left
    · (intro w hSw; (try dsimp only at hSw); go_simp; try with_reducible rfl)
    simp only [Act.put, List.setIfInBounds_toArray, List.set_cons_zero, List.set_cons_succ]
    refine wpAnyH_take (i := 6) (oi := ⟨some 120, _, _, _, _, _⟩) (v := ?_) rfl (by kernel_rfl) (by kernel_rfl) (by kernel_rfl) (fun _ _ _ h => h) (Or.inl ⟨by rfl, ?_⟩) (by assumption) ?_
    rotate_left
    · (intro w hSw; (try dsimp only at hSw); go_simp; try with_reducible rfl)
    simp only [Act.put, List.setIfInBounds_toArray, List.set_cons_zero, List.set_cons_succ]
    refine wpAnyH_ready (rs := [9]) (by kernel_rfl) (by simp) ?_
    refine AllReadyH.cons (o := ⟨some 123, _, _, _, _, _⟩) rfl (fun K hK => ?_) AllReadyH.nil
    go_simp
    go_at_call 21; refine (HTG.out _).mono ?_; rintro e w' ⟨rfl, mt, rfl⟩
    refine hK.out _ _ (by (try dsimp only); exact ⟨n0, n4⟩) ?_
    clear hK K hHeld
    intro hHeld
    try simp only [Act.put, List.setIfInBounds_toArray, List.set_cons_zero, List.set_cons_succ]
    refine wpAnyH_take (i := 10) (oi := ⟨some 124, _, _, _, _, _⟩) (v := ?_) rfl (by kernel_rfl) (by kernel_rfl) (by kernel_rfl) (fun _ _ _ h => h) (Or.inl ⟨by rfl, ?_⟩) (by assumption) ?_
    rotate_left
    · (intro w hSw; (try dsimp only at hSw); go_simp; try with_reducible rfl)
    simp only [Act.put, List.setIfInBounds_toArray, List.set_cons_zero, List.set_cons_succ]
    refine wpAnyH_take (i := 11) (oi := ⟨some 2, _, _, _, _, _⟩) (v := ?_) rfl (by kernel_rfl) (by kernel_rfl) (by kernel_rfl) (fun _ _ _ h => h) (Or.inl ⟨by rfl, ?_⟩) (by assumption) ?_
    rotate_left
    · (intro w hSw; (try dsimp only at hSw); go_simp; try with_reducible rfl)
    simp only [Act.put, List.setIfInBounds_toArray, List.set_cons_zero, List.set_cons_succ]
    refine wpAnyH_done (by kernel_rfl) ?_ _
    go_wp2_with fail
    go_ret
    exact ⟨by rw [HX.out]; rfl, by repeat (first | exact HB2.out | refine below_drewN ?_ _ | refine Below.drew ?_)⟩
  · skip
    have hkk : kind = 0 ∨ kind = 1 := by have := HRC.out; unfold rightC at this; omega
    rcases hkk with rfl | rfl
    · have HX := Lib.hid (show printA 17 d n m imm 0 = [66, 46, 69, 81, 32] ++ targetL imm by rw [HP.out]; unfold textA; rfl)
      go_wp2_with fail
      refine (rest_17a d n m imm _ hi (regL d) (regL n) (regL m) bD bN bM _ HX.out).mono ?_
      rintro e w' ⟨rfl, hb⟩
      go_wp2_with fail
      go_ret
      exact ⟨rfl, below_trans (by repeat (first | exact HB2.out | refine below_drewN ?_ _ | refine Below.drew ?_)) hb⟩
    · have HX := Lib.hid (show printA 17 d n m imm 1 = [66, 46, 78, 69, 32] ++ targetL imm by rw [HP.out]; unfold textA; rfl)
      go_wp2_with fail
      refine (rest_17b d n m imm _ hi (regL d) (regL n) (regL m) bD bN bM _ HX.out).mono ?_
      rintro e w' ⟨rfl, hb⟩
      go_wp2_with fail
      go_ret
      exact ⟨rfl, below_trans (by repeat (first | exact HB2.out | refine below_drewN ?_ _ | refine Below.drew ?_)) hb⟩
  · skip
    have hkk : kind = 9 ∨ kind = 10 ∨ kind = 11 ∨ kind = 13 ∨ kind = 14 ∨ kind = 15 := by have := HRDD.out; unfold rightD at this; omega
    rcases hkk with rfl | rfl | rfl | rfl | rfl | rfl
    · have HX := Lib.hid (show printA 18 d n m imm 9 = ([68, 77, 66, 32, 73, 83, 72, 76, 68] : List UInt8) by rw [HP.out]; unfold textA; rfl)
      go_wp2_with fail
      refine (rest_18_9 d n m imm _ hi (regL d) (regL n) (regL m) bD bN bM _ HX.out).mono ?_
      rintro e w' ⟨rfl, hb⟩
      go_wp2_with fail
      go_ret
      exact ⟨rfl, below_trans (by repeat (first | exact HB2.out | refine below_drewN ?_ _ | refine Below.drew ?_)) hb⟩
    · have HX := Lib.hid (show printA 18 d n m imm 10 = ([68, 77, 66, 32, 73, 83, 72, 83, 84] : List UInt8) by rw [HP.out]; unfold textA; rfl)
      go_wp2_with fail
      refine (rest_18_10 d n m imm _ hi (regL d) (regL n) (regL m) bD bN bM _ HX.out).mono ?_
      rintro e w' ⟨rfl, hb⟩
      go_wp2_with fail
      go_ret
      exact ⟨rfl, below_trans (by repeat (first | exact HB2.out | refine below_drewN ?_ _ | refine Below.drew ?_)) hb⟩
    · have HX := Lib.hid (show printA 18 d n m imm 11 = ([68, 77, 66, 32, 73, 83, 72] : List UInt8) by rw [HP.out]; unfold textA; rfl)
      go_wp2_with fail
      refine (rest_18_11 d n m imm _ hi (regL d) (regL n) (regL m) bD bN bM _ HX.out).mono ?_
      rintro e w' ⟨rfl, hb⟩
      go_wp2_with fail
      go_ret
      exact ⟨rfl, below_trans (by repeat (first | exact HB2.out | refine below_drewN ?_ _ | refine Below.drew ?_)) hb⟩
    · have HX := Lib.hid (show printA 18 d n m imm 13 = ([68, 77, 66, 32, 76, 68] : List UInt8) by rw [HP.out]; unfold textA; rfl)
      go_wp2_with fail
      refine (rest_18_13 d n m imm _ hi (regL d) (regL n) (regL m) bD bN bM _ HX.out).mono ?_
      rintro e w' ⟨rfl, hb⟩
      go_wp2_with fail
      go_ret
      exact ⟨rfl, below_trans (by repeat (first | exact HB2.out | refine below_drewN ?_ _ | refine Below.drew ?_)) hb⟩
    · have HX := Lib.hid (show printA 18 d n m imm 14 = ([68, 77, 66, 32, 83, 84] : List UInt8) by rw [HP.out]; unfold textA; rfl)
      go_wp2_with fail
      refine (rest_18_14 d n m imm _ hi (regL d) (regL n) (regL m) bD bN bM _ HX.out).mono ?_
      rintro e w' ⟨rfl, hb⟩
      go_wp2_with fail
      go_ret
      exact ⟨rfl, below_trans (by repeat (first | exact HB2.out | refine below_drewN ?_ _ | refine Below.drew ?_)) hb⟩
    · have HX := Lib.hid (show printA 18 d n m imm 15 = ([68, 77, 66, 32, 83, 89] : List UInt8) by rw [HP.out]; unfold textA; rfl)
      go_wp2_with fail
      refine (rest_18_15 d n m imm _ hi (regL d) (regL n) (regL m) bD bN bM _ HX.out).mono ?_
      rintro e w' ⟨rfl, hb⟩
      go_wp2_with fail
      go_ret
      exact ⟨rfl, below_trans (by repeat (first | exact HB2.out | refine below_drewN ?_ _ | refine Below.drew ?_)) hb⟩
  · skip
    have hkk : kind = 9 ∨ kind = 10 ∨ kind = 11 ∨ kind = 13 ∨ kind = 14 ∨ kind = 15 := by have := HRDD.out; unfold rightD at this; omega
    rcases hkk with rfl | rfl | rfl | rfl | rfl | rfl
    · have HX := Lib.hid (show printA 19 d n m imm 9 = ([68, 83, 66, 32, 73, 83, 72, 76, 68] : List UInt8) by rw [HP.out]; unfold textA; rfl)
      go_wp2_with fail
      refine (rest_19_9 d n m imm _ hi (regL d) (regL n) (regL m) bD bN bM _ HX.out).mono ?_
      rintro e w' ⟨rfl, hb⟩
      go_wp2_with fail
      go_ret
      exact ⟨rfl, below_trans (by repeat (first | exact HB2.out | refine below_drewN ?_ _ | refine Below.drew ?_)) hb⟩
    · have HX := Lib.hid (show printA 19 d n m imm 10 = ([68, 83, 66, 32, 73, 83, 72, 83, 84] : List UInt8) by rw [HP.out]; unfold textA; rfl)
      go_wp2_with fail
      refine (rest_19_10 d n m imm _ hi (regL d) (regL n) (regL m) bD bN bM _ HX.out).mono ?_
      rintro e w' ⟨rfl, hb⟩
      go_wp2_with fail
      go_ret
      exact ⟨rfl, below_trans (by repeat (first | exact HB2.out | refine below_drewN ?_ _ | refine Below.drew ?_)) hb⟩
    · have HX := Lib.hid (show printA 19 d n m imm 11 = ([68, 83, 66, 32, 73, 83, 72] : List UInt8) by rw [HP.out]; unfold textA; rfl)
      go_wp2_with fail
      refine (rest_19_11 d n m imm _ hi (regL d) (regL n) (regL m) bD bN bM _ HX.out).mono ?_
      rintro e w' ⟨rfl, hb⟩
      go_wp2_with fail
      go_ret
      exact ⟨rfl, below_trans (by repeat (first | exact HB2.out | refine below_drewN ?_ _ | refine Below.drew ?_)) hb⟩
    · have HX := Lib.hid (show printA 19 d n m imm 13 = ([68, 83, 66, 32, 76, 68] : List UInt8) by rw [HP.out]; unfold textA; rfl)
      go_wp2_with fail
      refine (rest_19_13 d n m imm _ hi (regL d) (regL n) (regL m) bD bN bM _ HX.out).mono ?_
      rintro e w' ⟨rfl, hb⟩
      go_wp2_with fail
      go_ret
      exact ⟨rfl, below_trans (by repeat (first | exact HB2.out | refine below_drewN ?_ _ | refine Below.drew ?_)) hb⟩
    · have HX := Lib.hid (show printA 19 d n m imm 14 = ([68, 83, 66, 32, 83, 84] : List UInt8) by rw [HP.out]; unfold textA; rfl)
      go_wp2_with fail
      refine (rest_19_14 d n m imm _ hi (regL d) (regL n) (regL m) bD bN bM _ HX.out).mono ?_
      rintro e w' ⟨rfl, hb⟩
      go_wp2_with fail
      go_ret
      exact ⟨rfl, below_trans (by repeat (first | exact HB2.out | refine below_drewN ?_ _ | refine Below.drew ?_)) hb⟩
    · have HX := Lib.hid (show printA 19 d n m imm 15 = ([68, 83, 66, 32, 83, 89] : List UInt8) by rw [HP.out]; unfold textA; rfl)
      go_wp2_with fail
      refine (rest_19_15 d n m imm _ hi (regL d) (regL n) (regL m) bD bN bM _ HX.out).mono ?_
      rintro e w' ⟨rfl, hb⟩
      go_wp2_with fail
      go_ret
      exact ⟨rfl, below_trans (by repeat (first | exact HB2.out | refine below_drewN ?_ _ | refine Below.drew ?_)) hb⟩
  · skip
    have HX := Lib.hid (show printA 20 d n m imm kind = ([73, 83, 66] : List UInt8) by rw [HP.out]; unfold textA; simp [nameL])
    go_wp2_with fail
    refine (aname_20 _).mono ?_
    rintro e w' ⟨rfl, rfl⟩
    go_wp2_with fail
    go_ret
    exact ⟨by rw [HX.out]; rfl, by repeat (first | exact HB2.out | refine below_drewN ?_ _ | refine Below.drew ?_)⟩
  · skip
    have hkk : kind = 0 ∨ kind = 1 ∨ kind = 2 ∨ kind = 3 ∨ kind = 4 ∨ kind = 5 ∨ kind = 6 ∨ kind = 7 := by have := HRDD.out; unfold rightD at this; omega
    rcases hkk with rfl | rfl | rfl | rfl | rfl | rfl | rfl | rfl
    · have HX := Lib.hid (show printA 21 d n m imm 0 = ([84, 76, 66, 73, 32, 86, 77, 65, 76, 76, 69, 49, 73, 83] : List UInt8) by rw [HP.out]; unfold textA; rfl)
      go_wp2_with fail
      refine (rest_21_0 d n m imm _ hi (regL d) (regL n) (regL m) bD bN bM _ HX.out).mono ?_
      rintro e w' ⟨rfl, hb⟩
      go_wp2_with fail
      go_ret
      exact ⟨rfl, below_trans (by repeat (first | exact HB2.out | refine below_drewN ?_ _ | refine Below.drew ?_)) hb⟩
    · have HX := Lib.hid (show printA 21 d n m imm 1 = ([84, 76, 66, 73, 32, 86, 65, 69, 49, 73, 83, 44] : List UInt8) ++ regL d by rw [HP.out]; unfold textA; rfl)
      go_wp2_with fail
      refine (rest_21_1 d n m imm _ hi (regL d) (regL n) (regL m) bD bN bM _ HX.out).mono ?_
      rintro e w' ⟨rfl, hb⟩
      go_wp2_with fail
      go_ret
      exact ⟨rfl, below_trans (by repeat (first | exact HB2.out | refine below_drewN ?_ _ | refine Below.drew ?_)) hb⟩
    · have HX := Lib.hid (show printA 21 d n m imm 2 = ([84, 76, 66, 73, 32, 86, 65, 65, 69, 49, 73, 83, 44] : List UInt8) ++ regL d by rw [HP.out]; unfold textA; rfl)
      go_wp2_with fail
      refine (rest_21_2 d n m imm _ hi (regL d) (regL n) (regL m) bD bN bM _ HX.out).mono ?_
      rintro e w' ⟨rfl, hb⟩
      go_wp2_with fail
      go_ret
      exact ⟨rfl, below_trans (by repeat (first | exact HB2.out | refine below_drewN ?_ _ | refine Below.drew ?_)) hb⟩
    · have HX := Lib.hid (show printA 21 d n m imm 3 = ([84, 76, 66, 73, 32, 65, 83, 73, 68, 69, 49, 73, 83, 44] : List UInt8) ++ regL d by rw [HP.out]; unfold textA; rfl)
      go_wp2_with fail
      refine (rest_21_3 d n m imm _ hi (regL d) (regL n) (regL m) bD bN bM _ HX.out).mono ?_
      rintro e w' ⟨rfl, hb⟩
      go_wp2_with fail
      go_ret
      exact ⟨rfl, below_trans (by repeat (first | exact HB2.out | refine below_drewN ?_ _ | refine Below.drew ?_)) hb⟩
    · have HX := Lib.hid (show printA 21 d n m imm 4 = ([84, 76, 66, 73, 32, 86, 77, 65, 76, 76, 69, 49] : List UInt8) by rw [HP.out]; unfold textA; rfl)
      go_wp2_with fail
      refine (rest_21_4 d n m imm _ hi (regL d) (regL n) (regL m) bD bN bM _ HX.out).mono ?_
      rintro e w' ⟨rfl, hb⟩
      go_wp2_with fail
      go_ret
      exact ⟨rfl, below_trans (by repeat (first | exact HB2.out | refine below_drewN ?_ _ | refine Below.drew ?_)) hb⟩
    · have HX := Lib.hid (show printA 21 d n m imm 5 = ([84, 76, 66, 73, 32, 86, 65, 69, 49, 44] : List UInt8) ++ regL d by rw [HP.out]; unfold textA; rfl)
      go_wp2_with fail
      refine (rest_21_5 d n m imm _ hi (regL d) (regL n) (regL m) bD bN bM _ HX.out).mono ?_
      rintro e w' ⟨rfl, hb⟩
      go_wp2_with fail
      go_ret
      exact ⟨rfl, below_trans (by repeat (first | exact HB2.out | refine below_drewN ?_ _ | refine Below.drew ?_)) hb⟩
    · have HX := Lib.hid (show printA 21 d n m imm 6 = ([84, 76, 66, 73, 32, 86, 65, 65, 69, 49, 44] : List UInt8) ++ regL d by rw [HP.out]; unfold textA; rfl)
      go_wp2_with fail
      refine (rest_21_6 d n m imm _ hi (regL d) (regL n) (regL m) bD bN bM _ HX.out).mono ?_
      rintro e w' ⟨rfl, hb⟩
      go_wp2_with fail
      go_ret
      exact ⟨rfl, below_trans (by repeat (first | exact HB2.out | refine below_drewN ?_ _ | refine Below.drew ?_)) hb⟩
    · have HX := Lib.hid (show printA 21 d n m imm 7 = ([84, 76, 66, 73, 32, 65, 83, 73, 68, 69, 49, 44] : List UInt8) ++ regL d by rw [HP.out]; unfold textA; rfl)
      go_wp2_with fail
      refine (rest_21_7 d n m imm _ hi (regL d) (regL n) (regL m) bD bN bM _ HX.out).mono ?_
      rintro e w' ⟨rfl, hb⟩
      go_wp2_with fail
      go_ret
      exact ⟨rfl, below_trans (by repeat (first | exact HB2.out | refine below_drewN ?_ _ | refine Below.drew ?_)) hb⟩
  · skip
    have HX := Lib.hid (show printA 22 d n m imm kind = ([69, 82, 69, 84] : List UInt8) by rw [HP.out]; unfold textA; simp [nameL])
    go_wp2_with fail
    refine (aname_22 _).mono ?_
    rintro e w' ⟨rfl, rfl⟩
    go_wp2_with fail
    go_ret
    exact ⟨by rw [HX.out]; rfl, by repeat (first | exact HB2.out | refine below_drewN ?_ _ | refine Below.drew ?_)⟩
  · skip
    have hkk : kind = 0 ∨ kind = 1 ∨ kind = 2 := by have := HRDD.out; unfold rightD at this; omega
    rcases hkk with rfl | rfl | rfl
    · have HX := Lib.hid (show printA 23 d n m imm 0 = ([77, 82, 83, 32] : List UInt8) ++ regL d ++ ([44] : List UInt8) ++ ([69, 83, 82, 95, 69, 76, 49] : List UInt8) by rw [HP.out]; unfold textA; rfl)
      go_wp2_with fail
      refine (rest_23_0 d n m imm _ hi (regL d) (regL n) (regL m) bD bN bM _ HX.out).mono ?_
      rintro e w' ⟨rfl, hb⟩
      go_wp2_with fail
      go_ret
      exact ⟨rfl, below_trans (by repeat (first | exact HB2.out | refine below_drewN ?_ _ | refine Below.drew ?_)) hb⟩
    · have HX := Lib.hid (show printA 23 d n m imm 1 = ([77, 82, 83, 32] : List UInt8) ++ regL d ++ ([44] : List UInt8) ++ ([70, 65, 82, 95, 69, 76, 49] : List UInt8) by rw [HP.out]; unfold textA; rfl)
      go_wp2_with fail
      refine (rest_23_1 d n m imm _ hi (regL d) (regL n) (regL m) bD bN bM _ HX.out).mono ?_
      rintro e w' ⟨rfl, hb⟩
      go_wp2_with fail
      go_ret
      exact ⟨rfl, below_trans (by repeat (first | exact HB2.out | refine below_drewN ?_ _ | refine Below.drew ?_)) hb⟩
    · have HX := Lib.hid (show printA 23 d n m imm 2 = ([77, 82, 83, 32] : List UInt8) ++ regL d ++ ([44] : List UInt8) ++ ([69, 76, 82, 95, 69, 76, 49] : List UInt8) by rw [HP.out]; unfold textA; rfl)
      go_wp2_with fail
      refine (rest_23_2 d n m imm _ hi (regL d) (regL n) (regL m) bD bN bM _ HX.out).mono ?_
      rintro e w' ⟨rfl, hb⟩
      go_wp2_with fail
      go_ret
      exact ⟨rfl, below_trans (by repeat (first | exact HB2.out | refine below_drewN ?_ _ | refine Below.drew ?_)) hb⟩
end Go.Proofs.Ytlhkjjfdmglabaa
