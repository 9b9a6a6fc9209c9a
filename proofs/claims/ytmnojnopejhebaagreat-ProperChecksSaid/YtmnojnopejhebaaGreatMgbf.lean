/- asm.Print: an instruction's text. -/
import Derived.Test.YtmnojnopejhebaaGreatMgag
import Derived.Test.YtmnojnopejhebaaGreatMgai
import Derived.Test.YtmnojnopejhebaaGreatMgak
import Derived.Test.YtmnojnopejhebaaGreatMgbe
import Derived.Deep.RegionHeld
import Derived.Deep.DeepCutAuto
namespace Go.Proofs.YtmnojnopejhebaaGreat
set_option linter.unusedVariables false
set_option linter.unusedSimpArgs false
set_option maxRecDepth 100000
set_option maxHeartbeats 25600000
section
open Go.RowKit
theorem y0n (k : Int) (w : World) (h : k = 9 ∨ k = 10 ∨ k = 11 ∨ k = 13 ∨ k = 14 ∨ k = 15) : Calls Tryz.prog 143 #[.int .i64 k] w fun e w' => e = .returned (.string (ba (barL k))) ∧ w = w' := by
 rcases h with rfl | rfl | rfl | rfl | rfl | rfl
 ·exact m1d w
 ·exact g1l w
 ·exact g1j w
 ·exact g1i w
 ·exact g1h w
 ·exact g1g w
theorem r0m (k : Int) (w : World) (h : k = 0 ∨ k = 1 ∨ k = 2 ∨ k = 3 ∨ k = 4 ∨ k = 5 ∨ k = 6 ∨ k = 7) : Calls Tryz.prog 144 #[.int .i64 k] w fun e w' => e = .returned (.string (ba (g0u k))) ∧ w = w' := by
 rcases h with rfl | rfl | rfl | rfl | rfl | rfl | rfl | rfl
 ·exact y0m w
 ·exact y0l w
 ·exact y0k w
 ·exact y0j w
 ·exact y0i w
 ·exact y0h w
 ·exact y0g w
 ·exact y0f w
theorem k1t (k : Int) (w : World) (h : k = 0 ∨ k = 1 ∨ k = 2) : Calls Tryz.prog 145 #[.int .i64 k] w fun e w' => e = .returned (.string (ba (sysL k))) ∧ w = w' := by
 rcases h with rfl | rfl | rfl
 ·exact m1c w
 ·exact m1b w
 ·exact m1a w
theorem u0u (k : Int) (w : World) (h : k = 8 ∨ k = 9 ∨ k = 10 ∨ k = 11 ∨ k = 12 ∨ k = 13) : Calls Tryz.prog 105 #[.int .i64 k] w fun e w' => e = .returned (.string (ba (f0d k))) ∧ w = w' := by
 rcases h with rfl | rfl | rfl | rfl | rfl | rfl
 ·exact o1p w
 ·exact o1o w
 ·exact l1f w
 ·exact l1e w
 ·exact l1d w
 ·exact l1c w
theorem h1w (d : Int) (n m imm : Int) (w : World) (hi : I64 imm)  (D N M : List UInt8) (hD : D.length ≤ 66) (hN : N.length ≤ 66) (hM : M.length ≤ 66) (R : List UInt8) (hR : R = [66, 46, 69, 81, 32] ++ a0o imm) :
  Calls Tryz.prog 107 #[b0o 17 d n m imm 0, .string (ba D), .string (ba N), .string (ba M)] w fun e w' => e = .returned (.string (ba R)) ∧ Below w.heap.size w w' := by
 have HB := h_ (bl_ (Below.refl w.heap.size w) (.cells #[.int .i64 17, .int .i64 d, .int .i64 n, .int .i64 m, .int .i64 imm, .int .i64 0] 91))
 have HT := h_ (fun w1 : World => d0w imm w1 hi)
 have b1 := d0m imm hi
 have bT : (a0o imm).length ≤ 67 := by unfold a0o; split <;> (simp; omega)
 generalize a0o imm = TG at *
 obtain ⟨A1, hA1, hcat1⟩ := catx (P := Tryz.prog) [66, 46, 69, 81, 32] TG (x := ({ data := #[66, 46, 69, 81, 32] } : ByteArray)) rfl (y := (ba TG)) rfl (by simp; omega)
 have HX := h_ (show R = A1 by rw [hR, hA1] <;> simp)
 clear hR hA1
 go_enter Tryz.func107, Tryz.ntmps107
 go_wp2_with fail
 refine (HT.out _).mono ?_
 rintro e w' ⟨rfl, m', rfl⟩
 go_wp2_with fail
 go_ret
 exact ⟨by rw [HX.out]; rfl, bd_ HB.out _⟩
theorem h1u (d : Int) (n m imm : Int) (w : World) (hi : I64 imm)  (D N M : List UInt8) (hD : D.length ≤ 66) (hN : N.length ≤ 66) (hM : M.length ≤ 66) (R : List UInt8) (hR : R = [66, 46, 78, 69, 32] ++ a0o imm) :
  Calls Tryz.prog 107 #[b0o 17 d n m imm 1, .string (ba D), .string (ba N), .string (ba M)] w fun e w' => e = .returned (.string (ba R)) ∧ Below w.heap.size w w' := by
 have HB := h_ (bl_ (Below.refl w.heap.size w) (.cells #[.int .i64 17, .int .i64 d, .int .i64 n, .int .i64 m, .int .i64 imm, .int .i64 1] 91))
 have HT := h_ (fun w1 : World => d0w imm w1 hi)
 have b1 := d0m imm hi
 have bT : (a0o imm).length ≤ 67 := by unfold a0o; split <;> (simp; omega)
 generalize a0o imm = TG at *
 obtain ⟨A1, hA1, hcat1⟩ := catx (P := Tryz.prog) [66, 46, 78, 69, 32] TG (x := ({ data := #[66, 46, 78, 69, 32] } : ByteArray)) rfl (y := (ba TG)) rfl (by simp; omega)
 have HX := h_ (show R = A1 by rw [hR, hA1] <;> simp)
 clear hR hA1
 go_enter Tryz.func107, Tryz.ntmps107
 go_wp2_with fail
 refine (HT.out _).mono ?_
 rintro e w' ⟨rfl, m', rfl⟩
 go_wp2_with fail
 go_ret
 exact ⟨by rw [HX.out]; rfl, bd_ HB.out _⟩
theorem m1q (d : Int) (n m imm : Int) (kind : Int) (w : World) (hi : I64 imm) (hk : kind = 9 ∨ kind = 10 ∨ kind = 11 ∨ kind = 13 ∨ kind = 14 ∨ kind = 15) (hl : (barL kind).length ≤ 9) (D N M : List UInt8) (hD : D.length ≤ 66) (hN : N.length ≤ 66) (hM : M.length ≤ 66) (R : List UInt8) (hR : R = ([68, 77, 66, 32] : List UInt8) ++ barL kind) :
  Calls Tryz.prog 107 #[b0o 18 d n m imm kind, .string (ba D), .string (ba N), .string (ba M)] w fun e w' => e = .returned (.string (ba R)) ∧ Below w.heap.size w w' := by
 have HB := h_ (bl_ (Below.refl w.heap.size w) (.cells #[.int .i64 18, .int .i64 d, .int .i64 n, .int .i64 m, .int .i64 imm, .int .i64 kind] 91))
 have HT := h_ (fun w1 : World => d0w imm w1 hi)
 have b1 := d0m imm hi
 have bT : (a0o imm).length ≤ 67 := by unfold a0o; split <;> (simp; omega)
 generalize a0o imm = TG at *
 obtain ⟨A1, hA1, hcat1⟩ := catx (P := Tryz.prog) [68, 77, 66, 32] (barL kind) (x := ({ data := #[68, 77, 66, 32] } : ByteArray)) rfl (y := (ba (barL kind))) rfl (by simp; omega)
 have HX := h_ (show R = A1 by rw [hR, hA1] <;> simp)
 clear hR hA1
 have HKK := h_ hk
 clear hk
 go_enter Tryz.func107, Tryz.ntmps107
 go_wp2_with fail
 refine (y0n _ _ HKK.out).mono ?_
 rintro e w' ⟨rfl, rfl⟩
 go_wp2_with fail
 go_ret
 exact ⟨by rw [HX.out]; rfl, HB.out⟩
theorem m1p (d : Int) (n m imm : Int) (kind : Int) (w : World) (hi : I64 imm) (hk : kind = 9 ∨ kind = 10 ∨ kind = 11 ∨ kind = 13 ∨ kind = 14 ∨ kind = 15) (hl : (barL kind).length ≤ 9) (D N M : List UInt8) (hD : D.length ≤ 66) (hN : N.length ≤ 66) (hM : M.length ≤ 66) (R : List UInt8) (hR : R = ([68, 83, 66, 32] : List UInt8) ++ barL kind) :
  Calls Tryz.prog 107 #[b0o 19 d n m imm kind, .string (ba D), .string (ba N), .string (ba M)] w fun e w' => e = .returned (.string (ba R)) ∧ Below w.heap.size w w' := by
 have HB := h_ (bl_ (Below.refl w.heap.size w) (.cells #[.int .i64 19, .int .i64 d, .int .i64 n, .int .i64 m, .int .i64 imm, .int .i64 kind] 91))
 have HT := h_ (fun w1 : World => d0w imm w1 hi)
 have b1 := d0m imm hi
 have bT : (a0o imm).length ≤ 67 := by unfold a0o; split <;> (simp; omega)
 generalize a0o imm = TG at *
 obtain ⟨A1, hA1, hcat1⟩ := catx (P := Tryz.prog) [68, 83, 66, 32] (barL kind) (x := ({ data := #[68, 83, 66, 32] } : ByteArray)) rfl (y := (ba (barL kind))) rfl (by simp; omega)
 have HX := h_ (show R = A1 by rw [hR, hA1] <;> simp)
 clear hR hA1
 have HKK := h_ hk
 clear hk
 go_enter Tryz.func107, Tryz.ntmps107
 go_wp2_with fail
 refine (y0n _ _ HKK.out).mono ?_
 rintro e w' ⟨rfl, rfl⟩
 go_wp2_with fail
 go_ret
 exact ⟨by rw [HX.out]; rfl, HB.out⟩
theorem h1t (d : Int) (n m imm : Int) (kind : Int) (w : World) (hi : I64 imm) (hk : kind = 0 ∨ kind = 4) (hl : (g0u kind).length ≤ 9) (D N M : List UInt8) (hD : D.length ≤ 66) (hN : N.length ≤ 66) (hM : M.length ≤ 66) (R : List UInt8) (hR : R = ([84, 76, 66, 73, 32] : List UInt8) ++ g0u kind) :
  Calls Tryz.prog 107 #[b0o 21 d n m imm kind, .string (ba D), .string (ba N), .string (ba M)] w fun e w' => e = .returned (.string (ba R)) ∧ Below w.heap.size w w' := by
 have HB := h_ (bl_ (Below.refl w.heap.size w) (.cells #[.int .i64 21, .int .i64 d, .int .i64 n, .int .i64 m, .int .i64 imm, .int .i64 kind] 91))
 have HT := h_ (fun w1 : World => d0w imm w1 hi)
 have b1 := d0m imm hi
 have bT : (a0o imm).length ≤ 67 := by unfold a0o; split <;> (simp; omega)
 generalize a0o imm = TG at *
 obtain ⟨A1, hA1, hcat1⟩ := catx (P := Tryz.prog) [84, 76, 66, 73, 32] (g0u kind) (x := ({ data := #[84, 76, 66, 73, 32] } : ByteArray)) rfl (y := (ba (g0u kind))) rfl (by simp; omega)
 have HX := h_ (show R = A1 by rw [hR, hA1] <;> simp)
 clear hR hA1
 go_enter Tryz.func107, Tryz.ntmps107
 rcases hk with rfl | rfl
 all_goals (
  go_wp2_with fail
  refine (r0m _ _ (by decide)).mono ?_
  rintro e w' ⟨rfl, rfl⟩
  go_wp2_with fail
  go_ret
  exact ⟨by rw [HX.out]; rfl, HB.out⟩)
theorem h1s (d : Int) (n m imm : Int) (kind : Int) (w : World) (hi : I64 imm) (hk : kind = 1 ∨ kind = 2 ∨ kind = 3 ∨ kind = 5 ∨ kind = 6 ∨ kind = 7) (hl : (g0u kind).length ≤ 9) (D N M : List UInt8) (hD : D.length ≤ 66) (hN : N.length ≤ 66) (hM : M.length ≤ 66) (R : List UInt8) (hR : R = ([84, 76, 66, 73, 32] : List UInt8) ++ g0u kind ++ [44] ++ D) :
  Calls Tryz.prog 107 #[b0o 21 d n m imm kind, .string (ba D), .string (ba N), .string (ba M)] w fun e w' => e = .returned (.string (ba R)) ∧ Below w.heap.size w w' := by
 have HB := h_ (bl_ (Below.refl w.heap.size w) (.cells #[.int .i64 21, .int .i64 d, .int .i64 n, .int .i64 m, .int .i64 imm, .int .i64 kind] 91))
 have HT := h_ (fun w1 : World => d0w imm w1 hi)
 have b1 := d0m imm hi
 have bT : (a0o imm).length ≤ 67 := by unfold a0o; split <;> (simp; omega)
 generalize a0o imm = TG at *
 obtain ⟨A1, hA1, hcat1⟩ := catx (P := Tryz.prog) [84, 76, 66, 73, 32] (g0u kind) (x := ({ data := #[84, 76, 66, 73, 32] } : ByteArray)) rfl (y := (ba (g0u kind))) rfl (by simp; omega)
 obtain ⟨A2, hA2, hcat2⟩ := catx (P := Tryz.prog) A1 [44] (x := (ba A1)) rfl (y := { data := #[44] }) rfl (by rw [hA1]; simp; omega)
 obtain ⟨A3, hA3, hcat3⟩ := catx (P := Tryz.prog) A2 D (x := (ba A2)) rfl (y := (ba D)) rfl (by rw [hA2]; rw [hA1]; simp; omega)
 have HX := h_ (show R = A3 by rw [hR, hA3, hA2, hA1] <;> simp)
 clear hR hA1 hA2 hA3
 go_enter Tryz.func107, Tryz.ntmps107
 rcases hk with rfl | rfl | rfl | rfl | rfl | rfl
 all_goals (
  go_wp2_with fail
  refine (r0m _ _ (by decide)).mono ?_
  rintro e w' ⟨rfl, rfl⟩
  go_wp2_with fail
  go_ret
  exact ⟨by rw [HX.out]; rfl, HB.out⟩)
theorem m1o (d : Int) (n m imm : Int) (kind : Int) (w : World) (hi : I64 imm) (hk : kind = 0 ∨ kind = 1 ∨ kind = 2) (hl : (sysL kind).length ≤ 9) (D N M : List UInt8) (hD : D.length ≤ 66) (hN : N.length ≤ 66) (hM : M.length ≤ 66) (R : List UInt8) (hR : R = ([77, 82, 83, 32] : List UInt8) ++ D ++ [44] ++ sysL kind) :
  Calls Tryz.prog 107 #[b0o 23 d n m imm kind, .string (ba D), .string (ba N), .string (ba M)] w fun e w' => e = .returned (.string (ba R)) ∧ Below w.heap.size w w' := by
 have HB := h_ (bl_ (Below.refl w.heap.size w) (.cells #[.int .i64 23, .int .i64 d, .int .i64 n, .int .i64 m, .int .i64 imm, .int .i64 kind] 91))
 have HT := h_ (fun w1 : World => d0w imm w1 hi)
 have b1 := d0m imm hi
 have bT : (a0o imm).length ≤ 67 := by unfold a0o; split <;> (simp; omega)
 generalize a0o imm = TG at *
 obtain ⟨A1, hA1, hcat1⟩ := catx (P := Tryz.prog) [77, 82, 83, 32] D (x := ({ data := #[77, 82, 83, 32] } : ByteArray)) rfl (y := (ba D)) rfl (by simp; omega)
 obtain ⟨A2, hA2, hcat2⟩ := catx (P := Tryz.prog) A1 [44] (x := (ba A1)) rfl (y := { data := #[44] }) rfl (by rw [hA1]; simp; omega)
 obtain ⟨A3, hA3, hcat3⟩ := catx (P := Tryz.prog) A2 (sysL kind) (x := (ba A2)) rfl (y := (ba (sysL kind))) rfl (by rw [hA2]; rw [hA1]; simp; omega)
 have HX := h_ (show R = A3 by rw [hR, hA3, hA2, hA1] <;> simp)
 clear hR hA1 hA2 hA3
 have HKK := h_ hk
 clear hk
 go_enter Tryz.func107, Tryz.ntmps107
 go_wp2_with fail
 refine (k1t _ _ HKK.out).mono ?_
 rintro e w' ⟨rfl, rfl⟩
 go_wp2_with fail
 go_ret
 exact ⟨by rw [HX.out]; rfl, HB.out⟩
theorem i1a (n m imm : Int) (kind : Int) (w : World) (hi : I64 imm)  (D N M : List UInt8) (hD : D.length ≤ 66) (hN : N.length ≤ 66) (hM : M.length ≤ 66) (R : List UInt8) (hR : R = ([67, 77, 80, 32] : List UInt8) ++ N ++ [44] ++ M) :
  Calls Tryz.prog 107 #[b0o 13 31 n m imm kind, .string (ba D), .string (ba N), .string (ba M)] w fun e w' => e = .returned (.string (ba R)) ∧ Below w.heap.size w w' := by
 have HB := h_ (bl_ (Below.refl w.heap.size w) (.cells #[.int .i64 13, .int .i64 31, .int .i64 n, .int .i64 m, .int .i64 imm, .int .i64 kind] 91))
 have HT := h_ (fun w1 : World => d0w imm w1 hi)
 have b1 := d0m imm hi
 have bT : (a0o imm).length ≤ 67 := by unfold a0o; split <;> (simp; omega)
 generalize a0o imm = TG at *
 obtain ⟨A1, hA1, hcat1⟩ := catx (P := Tryz.prog) [67, 77, 80, 32] N (x := ({ data := #[67, 77, 80, 32] } : ByteArray)) rfl (y := (ba N)) rfl (by simp; omega)
 obtain ⟨A2, hA2, hcat2⟩ := catx (P := Tryz.prog) A1 [44] (x := (ba A1)) rfl (y := { data := #[44] }) rfl (by rw [hA1]; simp; omega)
 obtain ⟨A3, hA3, hcat3⟩ := catx (P := Tryz.prog) A2 M (x := (ba A2)) rfl (y := (ba M)) rfl (by rw [hA2]; rw [hA1]; simp; omega)
 have HX := h_ (show R = A3 by rw [hR, hA3, hA2, hA1] <;> simp)
 clear hR hA1 hA2 hA3
 go_enter Tryz.func107, Tryz.ntmps107
 go_wp2_with fail
 go_ret
 exact ⟨by rw [HX.out]; rfl, HB.out⟩
theorem t0h (op d : Int) (n m imm : Int) (kind : Int) (w : World) (hi : I64 imm) (hk : op = 8 ∨ op = 9 ∨ op = 10 ∨ op = 11 ∨ op = 12) (hl : (f0d op).length ≤ 8) (D N M : List UInt8) (hD : D.length ≤ 66) (hN : N.length ≤ 66) (hM : M.length ≤ 66) (R : List UInt8) (hR : R = f0d op ++ [32] ++ D ++ [44] ++ N ++ [44] ++ M) :
  Calls Tryz.prog 107 #[b0o op d n m imm kind, .string (ba D), .string (ba N), .string (ba M)] w fun e w' => e = .returned (.string (ba R)) ∧ Below w.heap.size w w' := by
 have HB := h_ (bl_ (Below.refl w.heap.size w) (.cells #[.int .i64 op, .int .i64 d, .int .i64 n, .int .i64 m, .int .i64 imm, .int .i64 kind] 91))
 have HT := h_ (fun w1 : World => d0w imm w1 hi)
 have b1 := d0m imm hi
 have bT : (a0o imm).length ≤ 67 := by unfold a0o; split <;> (simp; omega)
 generalize a0o imm = TG at *
 obtain ⟨A1, hA1, hcat1⟩ := catx (P := Tryz.prog) (f0d op) [32] (x := (ba (f0d op))) rfl (y := { data := #[32] }) rfl (by simp; omega)
 obtain ⟨A2, hA2, hcat2⟩ := catx (P := Tryz.prog) A1 D (x := (ba A1)) rfl (y := (ba D)) rfl (by rw [hA1]; simp; omega)
 obtain ⟨A3, hA3, hcat3⟩ := catx (P := Tryz.prog) A2 [44] (x := (ba A2)) rfl (y := { data := #[44] }) rfl (by rw [hA2]; rw [hA1]; simp; omega)
 obtain ⟨A4, hA4, hcat4⟩ := catx (P := Tryz.prog) A3 N (x := (ba A3)) rfl (y := (ba N)) rfl (by rw [hA3]; rw [hA2]; rw [hA1]; simp; omega)
 obtain ⟨A5, hA5, hcat5⟩ := catx (P := Tryz.prog) A4 [44] (x := (ba A4)) rfl (y := { data := #[44] }) rfl (by rw [hA4]; rw [hA3]; rw [hA2]; rw [hA1]; simp; omega)
 obtain ⟨A6, hA6, hcat6⟩ := catx (P := Tryz.prog) A5 M (x := (ba A5)) rfl (y := (ba M)) rfl (by rw [hA5]; rw [hA4]; rw [hA3]; rw [hA2]; rw [hA1]; simp; omega)
 have HX := h_ (show R = A6 by rw [hR, hA6, hA5, hA4, hA3, hA2, hA1] <;> simp)
 clear hR hA1 hA2 hA3 hA4 hA5 hA6
 go_enter Tryz.func107, Tryz.ntmps107
 rcases hk with rfl | rfl | rfl | rfl | rfl
 all_goals (
  go_wp2_with fail
  refine (u0u _ _ (by decide)).mono ?_
  rintro e w' ⟨rfl, rfl⟩
  go_wp2_with fail
  go_ret
  exact ⟨by rw [HX.out]; rfl, HB.out⟩)
theorem h1y (d : Int) (n m imm : Int) (kind : Int) (w : World) (hi : I64 imm) (hd : (d == 31) = false) (hl : (f0d 13).length ≤ 8) (D N M : List UInt8) (hD : D.length ≤ 66) (hN : N.length ≤ 66) (hM : M.length ≤ 66) (R : List UInt8) (hR : R = f0d 13 ++ [32] ++ D ++ [44] ++ N ++ [44] ++ M) :
  Calls Tryz.prog 107 #[b0o 13 d n m imm kind, .string (ba D), .string (ba N), .string (ba M)] w fun e w' => e = .returned (.string (ba R)) ∧ Below w.heap.size w w' := by
 have HB := h_ (bl_ (Below.refl w.heap.size w) (.cells #[.int .i64 13, .int .i64 d, .int .i64 n, .int .i64 m, .int .i64 imm, .int .i64 kind] 91))
 have HT := h_ (fun w1 : World => d0w imm w1 hi)
 have b1 := d0m imm hi
 have bT : (a0o imm).length ≤ 67 := by unfold a0o; split <;> (simp; omega)
 generalize a0o imm = TG at *
 obtain ⟨A1, hA1, hcat1⟩ := catx (P := Tryz.prog) (f0d 13) [32] (x := (ba (f0d 13))) rfl (y := { data := #[32] }) rfl (by simp; omega)
 obtain ⟨A2, hA2, hcat2⟩ := catx (P := Tryz.prog) A1 D (x := (ba A1)) rfl (y := (ba D)) rfl (by rw [hA1]; simp; omega)
 obtain ⟨A3, hA3, hcat3⟩ := catx (P := Tryz.prog) A2 [44] (x := (ba A2)) rfl (y := { data := #[44] }) rfl (by rw [hA2]; rw [hA1]; simp; omega)
 obtain ⟨A4, hA4, hcat4⟩ := catx (P := Tryz.prog) A3 N (x := (ba A3)) rfl (y := (ba N)) rfl (by rw [hA3]; rw [hA2]; rw [hA1]; simp; omega)
 obtain ⟨A5, hA5, hcat5⟩ := catx (P := Tryz.prog) A4 [44] (x := (ba A4)) rfl (y := { data := #[44] }) rfl (by rw [hA4]; rw [hA3]; rw [hA2]; rw [hA1]; simp; omega)
 obtain ⟨A6, hA6, hcat6⟩ := catx (P := Tryz.prog) A5 M (x := (ba A5)) rfl (y := (ba M)) rfl (by rw [hA5]; rw [hA4]; rw [hA3]; rw [hA2]; rw [hA1]; simp; omega)
 have HX := h_ (show R = A6 by rw [hR, hA6, hA5, hA4, hA3, hA2, hA1] <;> simp)
 clear hR hA1 hA2 hA3 hA4 hA5 hA6
 go_enter Tryz.func107, Tryz.ntmps107
 go_wp2_with fail
 refine (u0u _ _ (by decide)).mono ?_
 rintro e w' ⟨rfl, rfl⟩
 go_wp2_with fail
 go_ret
 exact ⟨by rw [HX.out]; rfl, HB.out⟩
theorem r0l (op d n m imm kind : Int) (w : World) (hi : I64 imm) :
  Calls Tryz.prog 62 #[b0o op d n m imm kind] w fun e w' => e = .returned (.string (ba (b0b op d n m imm kind))) ∧ Below w.heap.size w w' := by
 have HB := h_ (bl_ (Below.refl w.heap.size w) (.cells #[.int .i64 op, .int .i64 d, .int .i64 n, .int .i64 m, .int .i64 imm, .int .i64 kind] 91))
 have HN := h_ (a0u w op d n m imm kind)
 have HC := h_ (m0u op d n m imm kind (w.alloc (.cells #[.int .i64 op, .int .i64 d, .int .i64 n, .int .i64 m, .int .i64 imm, .int .i64 kind] 91)))
 by_cases hr : b0e op d n m imm kind
 case neg =>
  have HX := h_ (show b0b op d n m imm kind = [] from if_neg hr)
  rw [show g0s op d n m imm kind = 30 from if_neg hr] at HC
  go_enter Tryz.func62, Tryz.ntmps62
  go_wp2_with fail
  refine (HC.out).mono ?_
  rintro e w2 ⟨rfl, hb⟩
  go_wp2_with fail
  go_ret
  exact ⟨by rw [HX.out]; rfl, bt_ HB.out hb⟩
 have HP := h_ (show b0b op d n m imm kind = e0z op d n m imm kind from if_pos hr)
 rw [show g0s op d n m imm kind = 0 from if_pos hr] at HC
 obtain ⟨⟨hop, hd, hn, hm⟩, hB, hCC, hDD⟩ := hr
 have HRB := h_ hB
 have HRC := h_ hCC
 have HRDD := h_ hDD
 clear hB hCC hDD
 have HTG := h_ (fun w1 => d0w imm w1 hi)
 have HII := h_ (fun w1 => l0l imm w1 hi)
 have HRD := h_ (fun w1 => h0o d w1 (by omega))
 have HRN := h_ (fun w1 => h0o n w1 (by omega))
 have HRM := h_ (fun w1 => h0o m w1 (by omega))
 have bI := d0m imm hi
 have bD := l0t d (by constructor <;> omega)
 have bN := l0t n (by constructor <;> omega)
 have bM := l0t m (by constructor <;> omega)
 have bT : (a0o imm).length ≤ 67 := by unfold a0o; split <;> (simp; omega)
 obtain ⟨I, hI⟩ : ∃ I : List UInt8, I = [35] ++ intL imm := ⟨_, rfl⟩
 have hcatI : ∀ wx : World, (Op.stringOp .add { data := #[35] } (ba (intL imm))).run Tryz.prog wx = .ok (.string (ba I)) wx := y0b (P := Tryz.prog) [35] _ I hI (by simp; omega)
 have bII : I.length ≤ 66 := by rw [hI]; simp; omega
 have HIM := h_ (show immL imm = I from hI.symm)
 clear hI
 go_enter Tryz.func62, Tryz.ntmps62
 go_wp2_with fail
 refine (HC.out).mono ?_
 rintro e w2 ⟨rfl, hb⟩
 have HB2 := h_ (bt_ HB.out hb)
 have hlt := (HN.out.below hb).lt
 obtain ⟨n0, n1, n2, n3, n4, n5⟩ := a0h (HN.out.below hb)
 clear hb HN HB HC
 go_wp2_with fail
 refine wp_region_held_drew (S := (fun w' => w'.cell? ⟨w.heap.size, 1, none⟩ = some (.int .i64 d) ∧ w'.cell? ⟨w.heap.size, 2, none⟩ = some (.int .i64 n) ∧ w'.cell? ⟨w.heap.size, 3, none⟩ = some (.int .i64 m) ∧ w'.cell? ⟨w.heap.size, 4, none⟩ = some (.int .i64 imm))) (by kernel_rfl) (by (try dsimp only); exact ⟨n1, n2, n3, n4⟩) (fun hHeld => ?_)
 refine tk1 0 10 rfl ?_
 simp only [Act.put, tka, tk0, tkS]
 refine tk1 1 11 rfl ?_
 simp only [Act.put, tka, tk0, tkS]
 refine tk1 3 13 rfl ?_
 simp only [Act.put, tka, tk0, tkS]
 refine tk1 4 14 rfl ?_
 simp only [Act.put, tka, tk0, tkS]
 refine tk1 6 16 rfl ?_
 simp only [Act.put, tka, tk0, tkS]
 refine tk1 7 17 rfl ?_
 simp only [Act.put, tka, tk0, tkS]
 refine tk1 9 19 rfl ?_
 simp only [Act.put, tka, tk0, tkS]
 refine tk1 10 20 rfl ?_
 simp only [Act.put, tka, tk0, tkS]
 refine wpAnyH_ready (rs := [2]) (by kernel_rfl) (by simp) ?_
 refine AllReadyH.cons (o := ⟨some 12, _, _, _, _, _⟩) rfl (fun K hK => ?_) AllReadyH.nil
 go_simp
 go_at_call 61; refine (HRD.out _).mono ?_; rintro e w' ⟨rfl, md, rfl⟩
 refine hK.out _ _ (by (try dsimp only); exact ⟨n1, n2, n3, n4⟩) ?_
 clear hK K hHeld
 intro hHeld
 try simp only [Act.put, tka, tk0, tkS]
 refine wpAnyH_ready (rs := [5]) (by kernel_rfl) (by simp) ?_
 refine AllReadyH.cons (o := ⟨some 15, _, _, _, _, _⟩) rfl (fun K hK => ?_) AllReadyH.nil
 go_simp
 go_at_call 61; refine (HRN.out _).mono ?_; rintro e w' ⟨rfl, mn, rfl⟩
 refine hK.out _ _ (by (try dsimp only); exact ⟨n1, n2, n3, n4⟩) ?_
 clear hK K hHeld
 intro hHeld
 try simp only [Act.put, tka, tk0, tkS]
 refine wpAnyH_ready (rs := [8]) (by kernel_rfl) (by simp) ?_
 refine AllReadyH.cons (o := ⟨some 18, _, _, _, _, _⟩) rfl (fun K hK => ?_) AllReadyH.nil
 go_simp
 go_at_call 61; refine (HRM.out _).mono ?_; rintro e w' ⟨rfl, mm, rfl⟩
 refine hK.out _ _ (by (try dsimp only); exact ⟨n1, n2, n3, n4⟩) ?_
 clear hK K hHeld
 intro hHeld
 try simp only [Act.put, tka, tk0, tkS]
 refine wpAnyH_ready (rs := [11]) (by kernel_rfl) (by simp) ?_
 refine AllReadyH.cons (o := ⟨some 21, _, _, _, _, _⟩) rfl (fun K hK => ?_) AllReadyH.nil
 go_simp
 go_at_call 60; refine (HII.out _).mono ?_; rintro e w' ⟨rfl, mimm, rfl⟩
 refine hK.out _ _ (by (try dsimp only); exact ⟨n1, n2, n3, n4⟩) ?_
 clear hK K hHeld
 intro hHeld
 try simp only [Act.put, tka, tk0, tkS]
 refine tk1 12 22 rfl ?_
 simp only [Act.put, tka, tk0, tkS]
 refine tk1 13 3 rfl ?_
 simp only [Act.put, tka, tk0, tkS]
 refine tk1 14 4 rfl ?_
 simp only [Act.put, tka, tk0, tkS]
 refine tk1 15 5 rfl ?_
 simp only [Act.put, tka, tk0, tkS]
 refine tk1 16 6 rfl ?_
 simp only [Act.put, tka, tk0, tkS]
 refine wpAnyH_done (by kernel_rfl) ?_ _
 clear hHeld
 have hopB : opB op = true := decide_eq_true hop
 rcases k0l hopB with rfl | rfl | rfl | rfl | rfl | rfl | rfl | rfl | rfl | rfl | rfl | rfl | rfl | rfl | rfl | rfl | rfl | rfl | rfl | rfl | rfl | rfl | rfl
 ·skip
  have HX := h_ (show b0b 1 d n m imm kind = ([78, 79, 80] : List UInt8) by rw [HP.out]; unfold e0z; simp [f0d])
  go_wp2_with fail
  refine (o1s _).mono ?_
  rintro e w' ⟨rfl, rfl⟩
  go_wp2_with fail
  go_ret
  exact ⟨by rw [HX.out]; rfl, by repeat (first | exact HB2.out | refine bd_ ?_ _ | refine Below.drew ?_)⟩
 ·skip
  by_cases hz : imm = 0
  ·subst hz
   obtain ⟨A1, hA1, hcat1⟩ := catx (P := Tryz.prog) [76, 68, 82, 32] (regL d) (x := ({ data := #[76, 68, 82] } ++ { data := #[32] } : ByteArray)) (by kernel_rfl) (y := (ba (regL d))) rfl (by simp; omega)
   obtain ⟨A2, hA2, hcat2⟩ := catx (P := Tryz.prog) A1 [44, 91] (x := (ba A1)) rfl (y := { data := #[44, 91] }) rfl (by rw [hA1]; simp; omega)
   obtain ⟨A3, hA3, hcat3⟩ := catx (P := Tryz.prog) A2 (regL n) (x := (ba A2)) rfl (y := (ba (regL n))) rfl (by rw [hA2]; rw [hA1]; simp; omega)
   obtain ⟨A4, hA4, hcat4⟩ := catx (P := Tryz.prog) A3 [93] (x := (ba A3)) rfl (y := { data := #[93] }) rfl (by rw [hA3]; rw [hA2]; rw [hA1]; simp; omega)
   have HX := h_ (show b0b 2 d n m 0 kind = A4 by rw [HP.out, hA4, hA3, hA2, hA1]; unfold e0z; simp [f0d])
   clear hA1 hA2 hA3 hA4
   go_wp2_with fail
   refine (g1f _).mono ?_
   rintro e w' ⟨rfl, rfl⟩
   go_wp2_with fail
   go_ret
   exact ⟨by rw [HX.out]; rfl, by repeat (first | exact HB2.out | refine bd_ ?_ _ | refine Below.drew ?_)⟩
  ·have hzb : (imm == 0) = false := beq_eq_false_iff_ne.2 hz
   obtain ⟨A1, hA1, hcat1⟩ := catx (P := Tryz.prog) [76, 68, 82, 32] (regL d) (x := ({ data := #[76, 68, 82] } ++ { data := #[32] } : ByteArray)) (by kernel_rfl) (y := (ba (regL d))) rfl (by simp; omega)
   obtain ⟨A2, hA2, hcat2⟩ := catx (P := Tryz.prog) A1 [44, 91] (x := (ba A1)) rfl (y := { data := #[44, 91] }) rfl (by rw [hA1]; simp; omega)
   obtain ⟨A3, hA3, hcat3⟩ := catx (P := Tryz.prog) A2 (regL n) (x := (ba A2)) rfl (y := (ba (regL n))) rfl (by rw [hA2]; rw [hA1]; simp; omega)
   obtain ⟨A4, hA4, hcat4⟩ := catx (P := Tryz.prog) A3 [44] (x := (ba A3)) rfl (y := { data := #[44] }) rfl (by rw [hA3]; rw [hA2]; rw [hA1]; simp; omega)
   obtain ⟨A5, hA5, hcat5⟩ := catx (P := Tryz.prog) A4 I (x := (ba A4)) rfl (y := (ba I)) rfl (by rw [hA4]; rw [hA3]; rw [hA2]; rw [hA1]; simp; omega)
   obtain ⟨A6, hA6, hcat6⟩ := catx (P := Tryz.prog) A5 [93] (x := (ba A5)) rfl (y := { data := #[93] }) rfl (by rw [hA5]; rw [hA4]; rw [hA3]; rw [hA2]; rw [hA1]; simp; omega)
   have HX := h_ (show b0b 2 d n m imm kind = A6 by rw [HP.out, hA6, hA5, hA4, hA3, hA2, hA1]; unfold e0z; simp [f0d, hz, HIM.out])
   clear hA1 hA2 hA3 hA4 hA5 hA6
   go_wp2_with fail
   refine (g1f _).mono ?_
   rintro e w' ⟨rfl, rfl⟩
   go_wp2_with fail
   go_ret
   exact ⟨by rw [HX.out]; rfl, by repeat (first | exact HB2.out | refine bd_ ?_ _ | refine Below.drew ?_)⟩
 ·skip
  by_cases hz : imm = 0
  ·subst hz
   obtain ⟨A1, hA1, hcat1⟩ := catx (P := Tryz.prog) [83, 84, 82, 32] (regL d) (x := ({ data := #[83, 84, 82] } ++ { data := #[32] } : ByteArray)) (by kernel_rfl) (y := (ba (regL d))) rfl (by simp; omega)
   obtain ⟨A2, hA2, hcat2⟩ := catx (P := Tryz.prog) A1 [44, 91] (x := (ba A1)) rfl (y := { data := #[44, 91] }) rfl (by rw [hA1]; simp; omega)
   obtain ⟨A3, hA3, hcat3⟩ := catx (P := Tryz.prog) A2 (regL n) (x := (ba A2)) rfl (y := (ba (regL n))) rfl (by rw [hA2]; rw [hA1]; simp; omega)
   obtain ⟨A4, hA4, hcat4⟩ := catx (P := Tryz.prog) A3 [93] (x := (ba A3)) rfl (y := { data := #[93] }) rfl (by rw [hA3]; rw [hA2]; rw [hA1]; simp; omega)
   have HX := h_ (show b0b 3 d n m 0 kind = A4 by rw [HP.out, hA4, hA3, hA2, hA1]; unfold e0z; simp [f0d])
   clear hA1 hA2 hA3 hA4
   go_wp2_with fail
   refine (g1e _).mono ?_
   rintro e w' ⟨rfl, rfl⟩
   go_wp2_with fail
   go_ret
   exact ⟨by rw [HX.out]; rfl, by repeat (first | exact HB2.out | refine bd_ ?_ _ | refine Below.drew ?_)⟩
  ·have hzb : (imm == 0) = false := beq_eq_false_iff_ne.2 hz
   obtain ⟨A1, hA1, hcat1⟩ := catx (P := Tryz.prog) [83, 84, 82, 32] (regL d) (x := ({ data := #[83, 84, 82] } ++ { data := #[32] } : ByteArray)) (by kernel_rfl) (y := (ba (regL d))) rfl (by simp; omega)
   obtain ⟨A2, hA2, hcat2⟩ := catx (P := Tryz.prog) A1 [44, 91] (x := (ba A1)) rfl (y := { data := #[44, 91] }) rfl (by rw [hA1]; simp; omega)
   obtain ⟨A3, hA3, hcat3⟩ := catx (P := Tryz.prog) A2 (regL n) (x := (ba A2)) rfl (y := (ba (regL n))) rfl (by rw [hA2]; rw [hA1]; simp; omega)
   obtain ⟨A4, hA4, hcat4⟩ := catx (P := Tryz.prog) A3 [44] (x := (ba A3)) rfl (y := { data := #[44] }) rfl (by rw [hA3]; rw [hA2]; rw [hA1]; simp; omega)
   obtain ⟨A5, hA5, hcat5⟩ := catx (P := Tryz.prog) A4 I (x := (ba A4)) rfl (y := (ba I)) rfl (by rw [hA4]; rw [hA3]; rw [hA2]; rw [hA1]; simp; omega)
   obtain ⟨A6, hA6, hcat6⟩ := catx (P := Tryz.prog) A5 [93] (x := (ba A5)) rfl (y := { data := #[93] }) rfl (by rw [hA5]; rw [hA4]; rw [hA3]; rw [hA2]; rw [hA1]; simp; omega)
   have HX := h_ (show b0b 3 d n m imm kind = A6 by rw [HP.out, hA6, hA5, hA4, hA3, hA2, hA1]; unfold e0z; simp [f0d, hz, HIM.out])
   clear hA1 hA2 hA3 hA4 hA5 hA6
   go_wp2_with fail
   refine (g1e _).mono ?_
   rintro e w' ⟨rfl, rfl⟩
   go_wp2_with fail
   go_ret
   exact ⟨by rw [HX.out]; rfl, by repeat (first | exact HB2.out | refine bd_ ?_ _ | refine Below.drew ?_)⟩
 ·skip
  obtain ⟨A1, hA1, hcat1⟩ := catx (P := Tryz.prog) [76, 68, 65, 82, 32] (regL d) (x := ({ data := #[76, 68, 65, 82] } ++ { data := #[32] } : ByteArray)) (by kernel_rfl) (y := (ba (regL d))) rfl (by simp; omega)
  obtain ⟨A2, hA2, hcat2⟩ := catx (P := Tryz.prog) A1 [44, 91] (x := (ba A1)) rfl (y := { data := #[44, 91] }) rfl (by rw [hA1]; simp; omega)
  obtain ⟨A3, hA3, hcat3⟩ := catx (P := Tryz.prog) A2 (regL n) (x := (ba A2)) rfl (y := (ba (regL n))) rfl (by rw [hA2]; rw [hA1]; simp; omega)
  obtain ⟨A4, hA4, hcat4⟩ := catx (P := Tryz.prog) A3 [93] (x := (ba A3)) rfl (y := { data := #[93] }) rfl (by rw [hA3]; rw [hA2]; rw [hA1]; simp; omega)
  have HX := h_ (show b0b 4 d n m imm kind = A4 by rw [HP.out, hA4, hA3, hA2, hA1]; unfold e0z; simp [f0d])
  clear hA1 hA2 hA3 hA4
  go_wp2_with fail
  refine (o1r _).mono ?_
  rintro e w' ⟨rfl, rfl⟩
  go_wp2_with fail
  go_ret
  exact ⟨by rw [HX.out]; rfl, by repeat (first | exact HB2.out | refine bd_ ?_ _ | refine Below.drew ?_)⟩
 ·skip
  obtain ⟨A1, hA1, hcat1⟩ := catx (P := Tryz.prog) [83, 84, 76, 82, 32] (regL d) (x := ({ data := #[83, 84, 76, 82] } ++ { data := #[32] } : ByteArray)) (by kernel_rfl) (y := (ba (regL d))) rfl (by simp; omega)
  obtain ⟨A2, hA2, hcat2⟩ := catx (P := Tryz.prog) A1 [44, 91] (x := (ba A1)) rfl (y := { data := #[44, 91] }) rfl (by rw [hA1]; simp; omega)
  obtain ⟨A3, hA3, hcat3⟩ := catx (P := Tryz.prog) A2 (regL n) (x := (ba A2)) rfl (y := (ba (regL n))) rfl (by rw [hA2]; rw [hA1]; simp; omega)
  obtain ⟨A4, hA4, hcat4⟩ := catx (P := Tryz.prog) A3 [93] (x := (ba A3)) rfl (y := { data := #[93] }) rfl (by rw [hA3]; rw [hA2]; rw [hA1]; simp; omega)
  have HX := h_ (show b0b 5 d n m imm kind = A4 by rw [HP.out, hA4, hA3, hA2, hA1]; unfold e0z; simp [f0d])
  clear hA1 hA2 hA3 hA4
  go_wp2_with fail
  refine (o1q _).mono ?_
  rintro e w' ⟨rfl, rfl⟩
  go_wp2_with fail
  go_ret
  exact ⟨by rw [HX.out]; rfl, by repeat (first | exact HB2.out | refine bd_ ?_ _ | refine Below.drew ?_)⟩
 ·skip
  by_cases hz : kind = 0
  ·subst hz
   obtain ⟨A1, hA1, hcat1⟩ := catx (P := Tryz.prog) [77, 79, 86, 32] (regL d) (x := ({ data := #[77, 79, 86, 32] } : ByteArray)) rfl (y := (ba (regL d))) rfl (by simp; omega)
   obtain ⟨A2, hA2, hcat2⟩ := catx (P := Tryz.prog) A1 [44] (x := (ba A1)) rfl (y := { data := #[44] }) rfl (by rw [hA1]; simp; omega)
   obtain ⟨A3, hA3, hcat3⟩ := catx (P := Tryz.prog) A2 I (x := (ba A2)) rfl (y := (ba I)) rfl (by rw [hA2]; rw [hA1]; simp; omega)
   have HX := h_ (show b0b 6 d n m imm 0 = A3 by rw [HP.out, hA3, hA2, hA1]; unfold e0z; simp [HIM.out])
   clear hA1 hA2 hA3
   go_wp2_with fail
   go_ret
   exact ⟨by rw [HX.out]; rfl, by repeat (first | exact HB2.out | refine bd_ ?_ _ | refine Below.drew ?_)⟩
  ·have hzb : (kind == 0) = false := beq_eq_false_iff_ne.2 hz
   have hk3 : 0 ≤ kind ∧ kind ≤ 3 := by have := HRC.out; unfold c0m at this; omega
   have hw16 : IntKind.i64.wrap (16 * kind) = 16 * kind := IntWalk.i64_in _ (by omega)
   have HK := h_ (fun w1 => l0l (16 * kind) w1 (by omega))
   have bK := d0m (16 * kind) (by omega)
   obtain ⟨A1, hA1, hcat1⟩ := catx (P := Tryz.prog) [77, 79, 86, 90, 32] (regL d) (x := ({ data := #[77, 79, 86, 90, 32] } : ByteArray)) rfl (y := (ba (regL d))) rfl (by simp; omega)
   obtain ⟨A2, hA2, hcat2⟩ := catx (P := Tryz.prog) A1 [44] (x := (ba A1)) rfl (y := { data := #[44] }) rfl (by rw [hA1]; simp; omega)
   obtain ⟨A3, hA3, hcat3⟩ := catx (P := Tryz.prog) A2 I (x := (ba A2)) rfl (y := (ba I)) rfl (by rw [hA2]; rw [hA1]; simp; omega)
   obtain ⟨A4, hA4, hcat4⟩ := catx (P := Tryz.prog) A3 [44, 76, 83, 76, 32, 35] (x := (ba A3)) rfl (y := { data := #[44, 76, 83, 76, 32, 35] }) rfl (by rw [hA3]; rw [hA2]; rw [hA1]; simp; omega)
   obtain ⟨A5, hA5, hcat5⟩ := catx (P := Tryz.prog) A4 (intL (16 * kind)) (x := (ba A4)) rfl (y := (ba (intL (16 * kind)))) rfl (by rw [hA4]; rw [hA3]; rw [hA2]; rw [hA1]; simp; omega)
   have HX := h_ (show b0b 6 d n m imm kind = A5 by rw [HP.out, hA5, hA4, hA3, hA2, hA1]; unfold e0z; simp [hz, HIM.out])
   clear hA1 hA2 hA3 hA4 hA5
   go_wp2_with fail
   refine (HK.out _).mono ?_
   rintro e w' ⟨rfl, mk, rfl⟩
   go_wp2_with fail
   go_ret
   exact ⟨by rw [HX.out]; rfl, by repeat (first | exact HB2.out | refine bd_ ?_ _ | refine Below.drew ?_)⟩
 ·skip
  obtain ⟨A1, hA1, hcat1⟩ := catx (P := Tryz.prog) [65, 68, 68, 32] (regL d) (x := ({ data := #[65, 68, 68, 32] } : ByteArray)) rfl (y := (ba (regL d))) rfl (by simp; omega)
  obtain ⟨A2, hA2, hcat2⟩ := catx (P := Tryz.prog) A1 [44] (x := (ba A1)) rfl (y := { data := #[44] }) rfl (by rw [hA1]; simp; omega)
  obtain ⟨A3, hA3, hcat3⟩ := catx (P := Tryz.prog) A2 (regL n) (x := (ba A2)) rfl (y := (ba (regL n))) rfl (by rw [hA2]; rw [hA1]; simp; omega)
  obtain ⟨A4, hA4, hcat4⟩ := catx (P := Tryz.prog) A3 [44] (x := (ba A3)) rfl (y := { data := #[44] }) rfl (by rw [hA3]; rw [hA2]; rw [hA1]; simp; omega)
  obtain ⟨A5, hA5, hcat5⟩ := catx (P := Tryz.prog) A4 I (x := (ba A4)) rfl (y := (ba I)) rfl (by rw [hA4]; rw [hA3]; rw [hA2]; rw [hA1]; simp; omega)
  have HX := h_ (show b0b 7 d n m imm kind = A5 by rw [HP.out, hA5, hA4, hA3, hA2, hA1]; unfold e0z; simp [HIM.out])
  clear hA1 hA2 hA3 hA4 hA5
  go_wp2_with fail
  go_ret
  exact ⟨by rw [HX.out]; rfl, by repeat (first | exact HB2.out | refine bd_ ?_ _ | refine Below.drew ?_)⟩
 ·skip
  have HX := h_ (show b0b 8 d n m imm kind = f0d 8 ++ [32] ++ regL d ++ [44] ++ regL n ++ [44] ++ regL m by rw [HP.out]; unfold e0z; simp [n0f])
  go_wp2_with fail
  refine (t0h 8 d n m imm kind _ hi (by decide) (by decide) (regL d) (regL n) (regL m) bD bN bM _ HX.out).mono ?_
  rintro e w' ⟨rfl, hb⟩
  go_wp2_with fail
  go_ret
  exact ⟨rfl, bt_ (by repeat (first | exact HB2.out | refine bd_ ?_ _ | refine Below.drew ?_)) hb⟩
 ·skip
  have HX := h_ (show b0b 9 d n m imm kind = f0d 9 ++ [32] ++ regL d ++ [44] ++ regL n ++ [44] ++ regL m by rw [HP.out]; unfold e0z; simp [n0f])
  go_wp2_with fail
  refine (t0h 9 d n m imm kind _ hi (by decide) (by decide) (regL d) (regL n) (regL m) bD bN bM _ HX.out).mono ?_
  rintro e w' ⟨rfl, hb⟩
  go_wp2_with fail
  go_ret
  exact ⟨rfl, bt_ (by repeat (first | exact HB2.out | refine bd_ ?_ _ | refine Below.drew ?_)) hb⟩
 ·skip
  have HX := h_ (show b0b 10 d n m imm kind = f0d 10 ++ [32] ++ regL d ++ [44] ++ regL n ++ [44] ++ regL m by rw [HP.out]; unfold e0z; simp [n0f])
  go_wp2_with fail
  refine (t0h 10 d n m imm kind _ hi (by decide) (by decide) (regL d) (regL n) (regL m) bD bN bM _ HX.out).mono ?_
  rintro e w' ⟨rfl, hb⟩
  go_wp2_with fail
  go_ret
  exact ⟨rfl, bt_ (by repeat (first | exact HB2.out | refine bd_ ?_ _ | refine Below.drew ?_)) hb⟩
 ·skip
  have HX := h_ (show b0b 11 d n m imm kind = f0d 11 ++ [32] ++ regL d ++ [44] ++ regL n ++ [44] ++ regL m by rw [HP.out]; unfold e0z; simp [n0f])
  go_wp2_with fail
  refine (t0h 11 d n m imm kind _ hi (by decide) (by decide) (regL d) (regL n) (regL m) bD bN bM _ HX.out).mono ?_
  rintro e w' ⟨rfl, hb⟩
  go_wp2_with fail
  go_ret
  exact ⟨rfl, bt_ (by repeat (first | exact HB2.out | refine bd_ ?_ _ | refine Below.drew ?_)) hb⟩
 ·skip
  have HX := h_ (show b0b 12 d n m imm kind = f0d 12 ++ [32] ++ regL d ++ [44] ++ regL n ++ [44] ++ regL m by rw [HP.out]; unfold e0z; simp [n0f])
  go_wp2_with fail
  refine (t0h 12 d n m imm kind _ hi (by decide) (by decide) (regL d) (regL n) (regL m) bD bN bM _ HX.out).mono ?_
  rintro e w' ⟨rfl, hb⟩
  go_wp2_with fail
  go_ret
  exact ⟨rfl, bt_ (by repeat (first | exact HB2.out | refine bd_ ?_ _ | refine Below.drew ?_)) hb⟩
 ·skip
  by_cases h31 : d = 31
  ·subst h31
   have HX := h_ (show b0b 13 31 n m imm kind = ([67, 77, 80, 32] : List UInt8) ++ regL n ++ [44] ++ regL m by rw [HP.out]; unfold e0z; rfl)
   go_wp2_with fail
   refine (i1a n m imm kind _ hi (regL 31) (regL n) (regL m) (by decide) bN bM _ HX.out).mono ?_
   rintro e w' ⟨rfl, hb⟩
   go_wp2_with fail
   go_ret
   exact ⟨rfl, bt_ (by repeat (first | exact HB2.out | refine bd_ ?_ _ | refine Below.drew ?_)) hb⟩
  ·have h31b : (d == 31) = false := beq_eq_false_iff_ne.2 h31
   have HX := h_ (show b0b 13 d n m imm kind = f0d 13 ++ [32] ++ regL d ++ [44] ++ regL n ++ [44] ++ regL m by rw [HP.out]; unfold e0z; simp [n0f, f0d, h31])
   go_wp2_with fail
   refine (h1y d n m imm kind _ hi h31b (by decide) (regL d) (regL n) (regL m) bD bN bM _ HX.out).mono ?_
   rintro e w' ⟨rfl, hb⟩
   go_wp2_with fail
   go_ret
   exact ⟨rfl, bt_ (by repeat (first | exact HB2.out | refine bd_ ?_ _ | refine Below.drew ?_)) hb⟩
 ·skip
  obtain ⟨A1, hA1, hcat1⟩ := catx (P := Tryz.prog) [66, 32] (a0o imm) (x := ({ data := #[66, 32] } : ByteArray)) rfl (y := (ba (a0o imm))) rfl (by simp; omega)
  have HX := h_ (show b0b 14 d n m imm kind = A1 by rw [HP.out, hA1]; unfold e0z; simp)
  clear hA1
  go_wp2_with fail
  refine (HTG.out _).mono ?_
  rintro e w' ⟨rfl, mt, rfl⟩
  go_wp2_with fail
  go_ret
  exact ⟨by rw [HX.out]; rfl, by repeat (first | exact HB2.out | refine bd_ ?_ _ | refine Below.drew ?_)⟩
 ·skip
  obtain ⟨A1, hA1, hcat1⟩ := catx (P := Tryz.prog) [67, 66, 90, 32] (regL d) (x := ({ data := #[67, 66, 90] } ++ { data := #[32] } : ByteArray)) (by kernel_rfl) (y := (ba (regL d))) rfl (by simp; omega)
  obtain ⟨A2, hA2, hcat2⟩ := catx (P := Tryz.prog) A1 [44] (x := (ba A1)) rfl (y := { data := #[44] }) rfl (by rw [hA1]; simp; omega)
  obtain ⟨A3, hA3, hcat3⟩ := catx (P := Tryz.prog) A2 (a0o imm) (x := (ba A2)) rfl (y := (ba (a0o imm))) rfl (by rw [hA2]; rw [hA1]; simp; omega)
  have HX := h_ (show b0b 15 d n m imm kind = A3 by rw [HP.out, hA3, hA2, hA1]; unfold e0z; simp [f0d])
  clear hA1 hA2 hA3
  go_wp2_with fail
  refine wp_region_held_drew (S := (fun w' => w'.cell? ⟨w.heap.size, 0, none⟩ = some (.int .i64 15) ∧ w'.cell? ⟨w.heap.size, 4, none⟩ = some (.int .i64 imm))) (by kernel_rfl) (by (try dsimp only); exact ⟨n0, n4⟩) (fun hHeld => ?_)
  refine tk1 0 114 rfl ?_
  simp only [Act.put, tka, tk0, tkS]
  refine tk1 1 115 rfl ?_
  simp only [Act.put, tka, tk0, tkS]
  refine tk1 4 118 rfl ?_
  simp only [Act.put, tka, tk0, tkS]
  refine tk1 7 121 rfl ?_
  simp only [Act.put, tka, tk0, tkS]
  refine tk1 8 122 rfl ?_
  simp only [Act.put, tka, tk0, tkS]
  refine wpAnyH_ready (rs := [2]) (by kernel_rfl) (by simp) ?_
  refine AllReadyH.cons (o := ⟨some 116, _, _, _, _, _⟩) rfl (fun K hK => ?_) AllReadyH.nil
  go_simp
  go_at_call 105; refine (k1z _).mono ?_; rintro e w' ⟨rfl, rfl⟩
  refine hK.out _ _ (by (try dsimp only); exact ⟨n0, n4⟩) ?_
  clear hK K hHeld
  intro hHeld
  try simp only [Act.put, tka, tk0, tkS]
  refine tk1 3 117 rfl ?_
  simp only [Act.put, tka, tk0, tkS]
  refine tk1 5 119 rfl ?_
  simp only [Act.put, tka, tk0, tkS]
  refine tk1 6 120 rfl ?_
  simp only [Act.put, tka, tk0, tkS]
  refine wpAnyH_ready (rs := [9]) (by kernel_rfl) (by simp) ?_
  refine AllReadyH.cons (o := ⟨some 123, _, _, _, _, _⟩) rfl (fun K hK => ?_) AllReadyH.nil
  go_simp
  go_at_call 106; refine (HTG.out _).mono ?_; rintro e w' ⟨rfl, mt, rfl⟩
  refine hK.out _ _ (by (try dsimp only); exact ⟨n0, n4⟩) ?_
  clear hK K hHeld
  intro hHeld
  try simp only [Act.put, tka, tk0, tkS]
  refine tk1 10 124 rfl ?_
  simp only [Act.put, tka, tk0, tkS]
  refine tk1 11 2 rfl ?_
  simp only [Act.put, tka, tk0, tkS]
  refine wpAnyH_done (by kernel_rfl) ?_ _
  go_wp2_with fail
  go_ret
  exact ⟨by rw [HX.out]; rfl, by repeat (first | exact HB2.out | refine bd_ ?_ _ | refine Below.drew ?_)⟩
 ·skip
  obtain ⟨A1, hA1, hcat1⟩ := catx (P := Tryz.prog) [67, 66, 78, 90, 32] (regL d) (x := ({ data := #[67, 66, 78, 90] } ++ { data := #[32] } : ByteArray)) (by kernel_rfl) (y := (ba (regL d))) rfl (by simp; omega)
  obtain ⟨A2, hA2, hcat2⟩ := catx (P := Tryz.prog) A1 [44] (x := (ba A1)) rfl (y := { data := #[44] }) rfl (by rw [hA1]; simp; omega)
  obtain ⟨A3, hA3, hcat3⟩ := catx (P := Tryz.prog) A2 (a0o imm) (x := (ba A2)) rfl (y := (ba (a0o imm))) rfl (by rw [hA2]; rw [hA1]; simp; omega)
  have HX := h_ (show b0b 16 d n m imm kind = A3 by rw [HP.out, hA3, hA2, hA1]; unfold e0z; simp [f0d])
  clear hA1 hA2 hA3
  go_wp2_with fail
  refine wp_region_held_drew (S := (fun w' => w'.cell? ⟨w.heap.size, 0, none⟩ = some (.int .i64 16) ∧ w'.cell? ⟨w.heap.size, 4, none⟩ = some (.int .i64 imm))) (by kernel_rfl) (by (try dsimp only); exact ⟨n0, n4⟩) (fun hHeld => ?_)
  refine tk1 0 114 rfl ?_
  simp only [Act.put, tka, tk0, tkS]
  refine tk1 1 115 rfl ?_
  simp only [Act.put, tka, tk0, tkS]
  refine tk1 4 118 rfl ?_
  simp only [Act.put, tka, tk0, tkS]
  refine tk1 7 121 rfl ?_
  simp only [Act.put, tka, tk0, tkS]
  refine tk1 8 122 rfl ?_
  simp only [Act.put, tka, tk0, tkS]
  refine wpAnyH_ready (rs := [2]) (by kernel_rfl) (by simp) ?_
  refine AllReadyH.cons (o := ⟨some 116, _, _, _, _, _⟩) rfl (fun K hK => ?_) AllReadyH.nil
  go_simp
  go_at_call 105; refine (k1y _).mono ?_; rintro e w' ⟨rfl, rfl⟩
  refine hK.out _ _ (by (try dsimp only); exact ⟨n0, n4⟩) ?_
  clear hK K hHeld
  intro hHeld
  try simp only [Act.put, tka, tk0, tkS]
  refine tk1 3 117 rfl ?_
  simp only [Act.put, tka, tk0, tkS]
  refine tk1 5 119 rfl ?_
  simp only [Act.put, tka, tk0, tkS]
  refine tk1 6 120 rfl ?_
  simp only [Act.put, tka, tk0, tkS]
  refine wpAnyH_ready (rs := [9]) (by kernel_rfl) (by simp) ?_
  refine AllReadyH.cons (o := ⟨some 123, _, _, _, _, _⟩) rfl (fun K hK => ?_) AllReadyH.nil
  go_simp
  go_at_call 106; refine (HTG.out _).mono ?_; rintro e w' ⟨rfl, mt, rfl⟩
  refine hK.out _ _ (by (try dsimp only); exact ⟨n0, n4⟩) ?_
  clear hK K hHeld
  intro hHeld
  try simp only [Act.put, tka, tk0, tkS]
  refine tk1 10 124 rfl ?_
  simp only [Act.put, tka, tk0, tkS]
  refine tk1 11 2 rfl ?_
  simp only [Act.put, tka, tk0, tkS]
  refine wpAnyH_done (by kernel_rfl) ?_ _
  go_wp2_with fail
  go_ret
  exact ⟨by rw [HX.out]; rfl, by repeat (first | exact HB2.out | refine bd_ ?_ _ | refine Below.drew ?_)⟩
 ·skip
  have hkk : kind = 0 ∨ kind = 1 := by have := HRC.out; unfold c0m at this; omega
  rcases hkk with rfl | rfl
  ·have HX := h_ (show b0b 17 d n m imm 0 = [66, 46, 69, 81, 32] ++ a0o imm by rw [HP.out]; unfold e0z; rfl)
   go_wp2_with fail
   refine (h1w d n m imm _ hi (regL d) (regL n) (regL m) bD bN bM _ HX.out).mono ?_
   rintro e w' ⟨rfl, hb⟩
   go_wp2_with fail
   go_ret
   exact ⟨rfl, bt_ (by repeat (first | exact HB2.out | refine bd_ ?_ _ | refine Below.drew ?_)) hb⟩
  ·have HX := h_ (show b0b 17 d n m imm 1 = [66, 46, 78, 69, 32] ++ a0o imm by rw [HP.out]; unfold e0z; rfl)
   go_wp2_with fail
   refine (h1u d n m imm _ hi (regL d) (regL n) (regL m) bD bN bM _ HX.out).mono ?_
   rintro e w' ⟨rfl, hb⟩
   go_wp2_with fail
   go_ret
   exact ⟨rfl, bt_ (by repeat (first | exact HB2.out | refine bd_ ?_ _ | refine Below.drew ?_)) hb⟩
 ·skip
  have hkk : kind = 9 ∨ kind = 10 ∨ kind = 11 ∨ kind = 13 ∨ kind = 14 ∨ kind = 15 := by have := HRDD.out; unfold c0l at this; omega
  have hl : (barL kind).length ≤ 9 := by rcases hkk with rfl | rfl | rfl | rfl | rfl | rfl <;> decide
  have HX := h_ (show b0b 18 d n m imm kind = ([68, 77, 66, 32] : List UInt8) ++ barL kind by rw [HP.out]; unfold e0z; rfl)
  go_wp2_with fail
  refine (m1q d n m imm kind _ hi hkk hl (regL d) (regL n) (regL m) bD bN bM _ HX.out).mono ?_
  rintro e w' ⟨rfl, hb⟩
  go_wp2_with fail
  go_ret
  exact ⟨rfl, bt_ (by repeat (first | exact HB2.out | refine bd_ ?_ _ | refine Below.drew ?_)) hb⟩
 ·skip
  have hkk : kind = 9 ∨ kind = 10 ∨ kind = 11 ∨ kind = 13 ∨ kind = 14 ∨ kind = 15 := by have := HRDD.out; unfold c0l at this; omega
  have hl : (barL kind).length ≤ 9 := by rcases hkk with rfl | rfl | rfl | rfl | rfl | rfl <;> decide
  have HX := h_ (show b0b 19 d n m imm kind = ([68, 83, 66, 32] : List UInt8) ++ barL kind by rw [HP.out]; unfold e0z; rfl)
  go_wp2_with fail
  refine (m1p d n m imm kind _ hi hkk hl (regL d) (regL n) (regL m) bD bN bM _ HX.out).mono ?_
  rintro e w' ⟨rfl, hb⟩
  go_wp2_with fail
  go_ret
  exact ⟨rfl, bt_ (by repeat (first | exact HB2.out | refine bd_ ?_ _ | refine Below.drew ?_)) hb⟩
 ·skip
  have HX := h_ (show b0b 20 d n m imm kind = ([73, 83, 66] : List UInt8) by rw [HP.out]; unfold e0z; simp [f0d])
  go_wp2_with fail
  refine (k1x _).mono ?_
  rintro e w' ⟨rfl, rfl⟩
  go_wp2_with fail
  go_ret
  exact ⟨by rw [HX.out]; rfl, by repeat (first | exact HB2.out | refine bd_ ?_ _ | refine Below.drew ?_)⟩
 ·skip
  have hkk : kind = 0 ∨ kind = 4 ∨ kind = 1 ∨ kind = 2 ∨ kind = 3 ∨ kind = 5 ∨ kind = 6 ∨ kind = 7 := by have := HRDD.out; unfold c0l at this; omega
  have hl : (g0u kind).length ≤ 9 := by rcases hkk with rfl | rfl | rfl | rfl | rfl | rfl | rfl | rfl <;> decide
  by_cases hz : kind % 4 = 0
  ·have hk2 : kind = 0 ∨ kind = 4 := by omega
   have HX := h_ (show b0b 21 d n m imm kind = ([84, 76, 66, 73, 32] : List UInt8) ++ g0u kind by rw [HP.out]; unfold e0z; simp [hz])
   go_wp2_with fail
   refine (h1t d n m imm kind _ hi hk2 hl (regL d) (regL n) (regL m) bD bN bM _ HX.out).mono ?_
   rintro e w' ⟨rfl, hb⟩
   go_wp2_with fail
   go_ret
   exact ⟨rfl, bt_ (by repeat (first | exact HB2.out | refine bd_ ?_ _ | refine Below.drew ?_)) hb⟩
  ·have hk2 : kind = 1 ∨ kind = 2 ∨ kind = 3 ∨ kind = 5 ∨ kind = 6 ∨ kind = 7 := by omega
   have HX := h_ (show b0b 21 d n m imm kind = ([84, 76, 66, 73, 32] : List UInt8) ++ g0u kind ++ [44] ++ regL d by rw [HP.out]; unfold e0z; simp [hz])
   go_wp2_with fail
   refine (h1s d n m imm kind _ hi hk2 hl (regL d) (regL n) (regL m) bD bN bM _ HX.out).mono ?_
   rintro e w' ⟨rfl, hb⟩
   go_wp2_with fail
   go_ret
   exact ⟨rfl, bt_ (by repeat (first | exact HB2.out | refine bd_ ?_ _ | refine Below.drew ?_)) hb⟩
 ·skip
  have HX := h_ (show b0b 22 d n m imm kind = ([69, 82, 69, 84] : List UInt8) by rw [HP.out]; unfold e0z; simp [f0d])
  go_wp2_with fail
  refine (k1w _).mono ?_
  rintro e w' ⟨rfl, rfl⟩
  go_wp2_with fail
  go_ret
  exact ⟨by rw [HX.out]; rfl, by repeat (first | exact HB2.out | refine bd_ ?_ _ | refine Below.drew ?_)⟩
 ·skip
  have hkk : kind = 0 ∨ kind = 1 ∨ kind = 2 := by have := HRDD.out; unfold c0l at this; omega
  have hl : (sysL kind).length ≤ 9 := by rcases hkk with rfl | rfl | rfl <;> decide
  have HX := h_ (show b0b 23 d n m imm kind = ([77, 82, 83, 32] : List UInt8) ++ regL d ++ [44] ++ sysL kind by rw [HP.out]; unfold e0z; simp)
  go_wp2_with fail
  refine (m1o d n m imm kind _ hi hkk hl (regL d) (regL n) (regL m) bD bN bM _ HX.out).mono ?_
  rintro e w' ⟨rfl, hb⟩
  go_wp2_with fail
  go_ret
  exact ⟨rfl, bt_ (by repeat (first | exact HB2.out | refine bd_ ?_ _ | refine Below.drew ?_)) hb⟩
end
end Go.Proofs.YtmnojnopejhebaaGreat
