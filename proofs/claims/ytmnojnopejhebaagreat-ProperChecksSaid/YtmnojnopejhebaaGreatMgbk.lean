/- granuleref13: weigh, Events. -/
import Derived.Test.YtmnojnopejhebaaGreatMgaa
import Derived.Test.YtmnojnopejhebaaGreatMgai
import Derived.Test.YtmnojnopejhebaaGreatMgaj
import Derived.Test.YtmnojnopejhebaaGreatMgbj
namespace Go.Proofs.YtmnojnopejhebaaGreat
set_option linter.unusedVariables false
set_option linter.unusedSimpArgs false
set_option maxRecDepth 100000
set_option maxHeartbeats 25600000
section
theorem s0w {α : Type} {l : List α} {k : Nat} (h : k < l.length) : l.take (k + 1) = l.take k ++ [l[k]] := by
 rw [List.take_add_one, List.getElem?_eq_getElem h]; rfl
end
section
open Go.RowKit
theorem r0s (w : World) {p : Option Addr} {n c : Nat} {l : List Int} (hA : Rds w 1 p n (l.map i64V)) (hn : n ≤ maxLen) (k : Nat) (hk : k < 4611686018427387904) :
  Calls Tryz.prog 45 #[.slice p n c, .int .i64 (k : Nat)] w fun e w' => e = .returned (.int .i64 (a0i l k)) ∧ ∃ m, w' = w.drewN m := by
 have hl : n = l.length := by have := hA.1; simpa using this.symm
 subst hl
 unfold maxLen at hn
 by_cases hkl : k < l.length
 ·have hk0 : (0 : Int) ≤ k := by omega
  have hkn : (k : Int) < l.length := by omega
  obtain ⟨g, off, rfl, hc⟩ := hA.int_at (k := .i64) hkl
  have H := h_ (show a0i l k = l.getD k 0 from rfl)
  generalize l.getD k 0 = z at *
  clear hA
  go_enter Tryz.func45, Tryz.ntmps45
  go_wp2
  go_ret
  exact ⟨b0u (by rw [H.out]), 0, rfl⟩
 ·have hkn : (l.length : Int) ≤ k := by omega
  have H := h_ (show a0i l k = 0 by unfold a0i; simp [List.getD, List.getElem?_eq_none (show l.length ≤ k by omega)])
  clear hA hkl
  go_enter Tryz.func45, Tryz.ntmps45
  go_wp2
  go_ret
  exact ⟨b0u (by rw [H.out]), 0, rfl⟩
theorem v0p (a : Nat) (w : World) (h : a < 18446744073709551616) :
  Calls Tryz.prog 46 #[.int .u64 (a : Nat)] w fun e w' => e = .returned (.int .i64 (f0e a)) ∧ ∃ m, w' = w.drewN m := by
 by_cases h8 : a % 8 = 0
 ·have h8' : ((a : Int) % 8 == 0) = true := beq_iff_eq.2 (by omega)
  by_cases h32 : 4294967296 ≤ a
  ·have h32' : (4294967296 : Int) ≤ (a : Int) := by omega
   have H := h_ (show f0e a = 1 by unfold f0e; rw [if_neg (by omega), if_pos h32])
   go_enter Tryz.func46, Tryz.ntmps46
   go_wp2
   go_ret
   exact ⟨b0u (by rw [H.out]), 0, rfl⟩
  ·have h32' : (a : Int) < 4294967296 := by omega
   have H := h_ (show f0e a = 0 by unfold f0e; rw [if_neg (by omega), if_neg h32])
   have ha0 : (0 : Int) ≤ (a : Int) := by omega
   clear h8 h32 h
   generalize (a : Int) = z at *
   go_enter Tryz.func46, Tryz.ntmps46
   go_wp2
   go_ret
   exact ⟨b0u (by rw [H.out]), 0, rfl⟩
 ·have H := h_ (show f0e a = 60 by unfold f0e; rw [if_pos h8])
  have h8' : ((a : Int) % 8 == 0) = false := beq_eq_false_iff_ne.2 (by omega)
  go_enter Tryz.func46, Tryz.ntmps46
  go_wp2
  go_ret
  exact ⟨b0u (by rw [H.out]), 0, rfl⟩
theorem k1v {zs : List Int} {x : Int} {k : Nat} (hk : k < zs.length) : (zs.take (k + 1)).any (· == x) = ((zs.take k).any (· == x) || (zs.getD k 0 == x)) := by
 rw [List.take_add_one, List.getElem?_eq_getElem hk, List.any_append]
 simp [List.getD, List.getElem?_eq_getElem hk]
theorem w0b (x : Int) (w : World) {p : Option Addr} {c : Nat} {zs : List Int} (hR : Rds w 1 p zs.length (zs.map (Value.int .i64))) (hl : zs.length ≤ 1000) :
  Calls Tryz.prog 117 #[.int .i64 x, .slice p zs.length c] w fun e w' => e = .returned (.bool (zs.any (· == x))) ∧ ∃ m, w' = w.drewN m := by
 have HC := h_ (fun (j : Nat) (hj : j < zs.length) => hR.int_at (k := .i64) hj)
 have HA := h_ (fun (k : Nat) (hk : k < zs.length) => @k1v zs x k hk)
 have HE := h_ (show (zs.take zs.length).any (· == x) = zs.any (· == x) by rw [List.take_length])
 clear hR
 go_enter Tryz.func117, Tryz.ntmps117
 go_wp2_with fail
 go_loopw [5] (fun i wr => ∃ k : Nat, k ≤ zs.length ∧ i = .int .i64 k ∧ Hid ((zs.take k).any (· == x) = false) ∧ ∃ m, wr = w.drewN m) (fun i _ => zs.length - (intOf i).toNat)
 case atStart => exact ⟨0, Nat.zero_le _, rfl, h_ rfl, 0, rfl⟩
 case round =>
  obtain ⟨k, hk, rfl, HN, m, rfl⟩ := hrel
  by_cases hkl : k < zs.length
  ·have hkn : (k : Int) < zs.length := by omega
   obtain ⟨g, off, rfl, c0⟩ := HC.out k hkl
   have HX := h_ (HA.out k hkl)
   rw [HN.out, Bool.false_or] at HX
   have HQ := h_ (show (zs.getD k 0 == x) = true → zs.any (· == x) = true from fun h => by
    rw [h] at HX
    exact List.any_eq_true.2 ((List.any_eq_true.1 HX.out).imp fun _ h => ⟨List.mem_of_mem_take h.1, h.2⟩))
   generalize zs.getD k 0 = z at *
   by_cases hz : z = x
   ·have HT := h_ (HQ.out (beq_iff_eq.2 hz))
    subst hz
    go_wp2_with fail
    go_ret
    exact ⟨by rw [HT.out]; rfl, m, rfl⟩
   ·have hzb : (z == x) = false := beq_eq_false_iff_ne.2 hz
    rw [hzb] at HX
    have HN2 := h_ HX.out
    clear HX HQ
    go_wp2_with fail
    go_roundw
    case rel => exact ⟨k + 1, by omega, by go_num, HN2, m, rfl⟩
    case measure => simp [intOf] <;> omega
  ·obtain rfl : k = zs.length := by omega
   have HT := h_ (show zs.any (· == x) = false by rw [← HE.out]; exact HN.out)
   go_wp2_with fail
   go_ret
   exact ⟨by rw [HT.out]; rfl, m, rfl⟩
theorem v0x (zs : List Int) (W : World) (T : TypeId) : Rds (W.alloc (.cells (zs.map (Value.int .i64)).toArray T)) 1 (some ⟨W.heap.size, 0, none⟩) zs.length (zs.map (Value.int .i64)) :=
 ⟨by simp, fun h => ⟨_, 0, rfl, fun j hj => by rw [Nat.zero_add, cell_of_row _ _ j _ _ _ (heap_alloc_new W _)]; simp⟩⟩
theorem e1w (op d n m imm kind : Int) (w : World) :
  Calls Tryz.prog 79 #[b0o op d n m imm kind] w fun e w' => e = .returned (.bool (op == 2 || op == 4)) ∧ Below w.heap.size w w' := by
 have HB := h_ (show Below w.heap.size w ((w.alloc (.cells #[.int .i64 op, .int .i64 d, .int .i64 n, .int .i64 m, .int .i64 imm, .int .i64 kind] 91)).alloc (.cells #[.int .i64 2, .int .i64 4] 3)) from bl_ (bl_ (Below.refl _ _) _) _)
 have HI := h_ (w0b op _ (c := 2) (v0x [2, 4] (w.alloc (.cells #[.int .i64 op, .int .i64 d, .int .i64 n, .int .i64 m, .int .i64 imm, .int .i64 kind] 91)) 3) (by decide))
 have HX := h_ (show ((([2, 4] : List Int)).any (· == op)) = (op == 2 || op == 4) from by
  show (((2 : Int) == op) || (((4 : Int) == op) || false)) = _
  rw [Bool.or_false, BEq.comm (a := (2 : Int)), BEq.comm (a := (4 : Int))])
 rw [World.size_alloc] at HI
 dsimp only [List.map, List.length, List.toArray] at HI
 rw [HX.out] at HI
 go_enter Tryz.func79, Tryz.ntmps79
 go_wp2_with fail
 refine (HI.out).mono ?_
 rintro e w2 ⟨rfl, j, rfl⟩
 go_wp2_with fail
 go_ret
 exact ⟨rfl, bd_ HB.out j⟩
theorem y0x (op d n m imm kind : Int) (w : World) :
  Calls Tryz.prog 80 #[b0o op d n m imm kind] w fun e w' => e = .returned (.bool (op == 3 || op == 5)) ∧ Below w.heap.size w w' := by
 have HB := h_ (show Below w.heap.size w ((w.alloc (.cells #[.int .i64 op, .int .i64 d, .int .i64 n, .int .i64 m, .int .i64 imm, .int .i64 kind] 91)).alloc (.cells #[.int .i64 3, .int .i64 5] 3)) from bl_ (bl_ (Below.refl _ _) _) _)
 have HI := h_ (w0b op _ (c := 2) (v0x [3, 5] (w.alloc (.cells #[.int .i64 op, .int .i64 d, .int .i64 n, .int .i64 m, .int .i64 imm, .int .i64 kind] 91)) 3) (by decide))
 have HX := h_ (show ((([3, 5] : List Int)).any (· == op)) = (op == 3 || op == 5) from by
  show (((3 : Int) == op) || (((5 : Int) == op) || false)) = _
  rw [Bool.or_false, BEq.comm (a := (3 : Int)), BEq.comm (a := (5 : Int))])
 rw [World.size_alloc] at HI
 dsimp only [List.map, List.length, List.toArray] at HI
 rw [HX.out] at HI
 go_enter Tryz.func80, Tryz.ntmps80
 go_wp2_with fail
 refine (HI.out).mono ?_
 rintro e w2 ⟨rfl, j, rfl⟩
 go_wp2_with fail
 go_ret
 exact ⟨rfl, bd_ HB.out j⟩
theorem q0b (op d n m imm kind : Int) (w : World) :
  Calls Tryz.prog 114 #[b0o op d n m imm kind] w fun e w' => e = .returned (.bool (op == 15 || op == 16 || op == 17)) ∧ Below w.heap.size w w' := by
 have HB := h_ (show Below w.heap.size w ((w.alloc (.cells #[.int .i64 op, .int .i64 d, .int .i64 n, .int .i64 m, .int .i64 imm, .int .i64 kind] 91)).alloc (.cells #[.int .i64 15, .int .i64 16, .int .i64 17] 3)) from bl_ (bl_ (Below.refl _ _) _) _)
 have HI := h_ (w0b op _ (c := 3) (v0x [15, 16, 17] (w.alloc (.cells #[.int .i64 op, .int .i64 d, .int .i64 n, .int .i64 m, .int .i64 imm, .int .i64 kind] 91)) 3) (by decide))
 have HX := h_ (show ((([15, 16, 17] : List Int)).any (· == op)) = (op == 15 || op == 16 || op == 17) from by
  show (((15 : Int) == op) || (((16 : Int) == op) || (((17 : Int) == op) || false))) = _
  rw [Bool.or_false, BEq.comm (a := (15 : Int)), BEq.comm (a := (16 : Int)), BEq.comm (a := (17 : Int))]; rw [Bool.or_assoc])
 rw [World.size_alloc] at HI
 dsimp only [List.map, List.length, List.toArray] at HI
 rw [HX.out] at HI
 go_enter Tryz.func114, Tryz.ntmps114
 go_wp2_with fail
 refine (HI.out).mono ?_
 rintro e w2 ⟨rfl, j, rfl⟩
 go_wp2_with fail
 go_ret
 exact ⟨rfl, bd_ HB.out j⟩
theorem q0m (op d n m imm kind : Int) (left : Nat) (h : Bool) (w : World) :
  Calls Tryz.prog 75 #[b0o op d n m imm kind, .int .i64 (left : Nat), .bool h] w fun e w' => e = .returned (.int .i64 (insE ⟨op, d, n, m, imm, kind⟩ left h)) ∧ Below w.heap.size w w' := by
 have HB1 := h_ (show Below w.heap.size w (w.alloc (.cells #[.int .i64 op, .int .i64 d, .int .i64 n, .int .i64 m, .int .i64 imm, .int .i64 kind] 91)) from bl_ (Below.refl _ _) _)
 have HM := h_ (show Blk (w.alloc (.cells #[.int .i64 op, .int .i64 d, .int .i64 n, .int .i64 m, .int .i64 imm, .int .i64 kind] 91)) 91 w.heap.size [.int .i64 op, .int .i64 d, .int .i64 n, .int .i64 m, .int .i64 imm, .int .i64 kind] from Blk.new w _ _)
 have HR := h_ (fun w => z0i op d n m imm kind w)
 have HV := h_ (show insE ⟨op, d, n, m, imm, kind⟩ left h = if ¬ b0e op d n m imm kind then 30 else if op = 22 ∧ h = false then 30 else if op = 14 ∨ brB op = true then (if imm < 1 then 134 else if (left : Int) < imm then 1 else 0) else 0 from rfl)
 by_cases hr : ¬ b0e op d n m imm kind
 ·rw [if_pos hr] at HV
  rw [t0f hr] at HR
  clear hr
  go_enter Tryz.func75, Tryz.ntmps75
  go_wp2_with fail
  refine (HR.out _).mono ?_
  rintro e w2 ⟨rfl, hb⟩
  have HB2 := h_ (bt_ HB1.out hb)
  have HM2 := h_ (HM.out.below hb)
  clear hb HB1 HM HR
  have m0 := HM2.out.cell 0
  have m1 := HM2.out.cell 1
  have m2 := HM2.out.cell 2
  have m3 := HM2.out.cell 3
  have m4 := HM2.out.cell 4
  have m5 := HM2.out.cell 5
  have ml := HM2.out.lt
  simp only [gz_, gs_] at m0 m1 m2 m3 m4 m5
  go_wp2_with fail
  go_ret
  exact ⟨b0u HV.out.symm, HB2.out⟩
 rw [if_neg hr] at HV
 rw [d1a (Decidable.not_not.1 hr)] at HR
 clear hr
 by_cases h22 : op = 22
 ·subst h22
  cases h with
  | false =>
   rw [if_pos ⟨rfl, rfl⟩] at HV
   go_enter Tryz.func75, Tryz.ntmps75
   go_wp2_with fail
   refine (HR.out _).mono ?_
   rintro e w2 ⟨rfl, hb⟩
   have HB2 := h_ (bt_ HB1.out hb)
   have HM2 := h_ (HM.out.below hb)
   clear hb HB1 HM HR
   have m0 := HM2.out.cell 0
   have m1 := HM2.out.cell 1
   have m2 := HM2.out.cell 2
   have m3 := HM2.out.cell 3
   have m4 := HM2.out.cell 4
   have m5 := HM2.out.cell 5
   have ml := HM2.out.lt
   simp only [gz_, gs_] at m0 m1 m2 m3 m4 m5
   go_wp2_with fail
   go_ret
   exact ⟨b0u HV.out.symm, HB2.out⟩
  | true =>
   rw [if_neg (fun q => by cases q.2), if_neg (by decide)] at HV
   have HBR := h_ (fun w => q0b 22 d n m imm kind w)
   go_enter Tryz.func75, Tryz.ntmps75
   go_wp2_with fail
   refine (HR.out _).mono ?_
   rintro e w2 ⟨rfl, hb⟩
   have HB2 := h_ (bt_ HB1.out hb)
   have HM2 := h_ (HM.out.below hb)
   clear hb HB1 HM HR
   have m0 := HM2.out.cell 0
   have m1 := HM2.out.cell 1
   have m2 := HM2.out.cell 2
   have m3 := HM2.out.cell 3
   have m4 := HM2.out.cell 4
   have m5 := HM2.out.cell 5
   have ml := HM2.out.lt
   simp only [gz_, gs_] at m0 m1 m2 m3 m4 m5
   go_wp2_with fail
   refine (HBR.out _).mono ?_
   rintro e w3 ⟨rfl, hb⟩
   have HB3 := h_ (bt_ HB2.out hb)
   clear hb
   go_wp2_with fail
   go_ret
   exact ⟨b0u HV.out.symm, HB3.out⟩
 rw [if_neg (fun q => h22 q.1)] at HV
 have h22b : (op == 22) = false := beq_eq_false_iff_ne.2 h22
 clear h22
 by_cases h14 : op = 14
 ·subst h14
  rw [if_pos (.inl rfl)] at HV
  by_cases h1 : imm < 1
  ·rw [if_pos h1] at HV
   go_enter Tryz.func75, Tryz.ntmps75
   go_wp2_with fail
   refine (HR.out _).mono ?_
   rintro e w2 ⟨rfl, hb⟩
   have HB2 := h_ (bt_ HB1.out hb)
   have HM2 := h_ (HM.out.below hb)
   clear hb HB1 HM HR
   have m0 := HM2.out.cell 0
   have m1 := HM2.out.cell 1
   have m2 := HM2.out.cell 2
   have m3 := HM2.out.cell 3
   have m4 := HM2.out.cell 4
   have m5 := HM2.out.cell 5
   have ml := HM2.out.lt
   simp only [gz_, gs_] at m0 m1 m2 m3 m4 m5
   go_wp2_with fail
   go_ret
   exact ⟨b0u HV.out.symm, HB2.out⟩
  rw [if_neg h1] at HV
  by_cases h2 : (left : Int) < imm
  ·rw [if_pos h2] at HV
   go_enter Tryz.func75, Tryz.ntmps75
   go_wp2_with fail
   refine (HR.out _).mono ?_
   rintro e w2 ⟨rfl, hb⟩
   have HB2 := h_ (bt_ HB1.out hb)
   have HM2 := h_ (HM.out.below hb)
   clear hb HB1 HM HR
   have m0 := HM2.out.cell 0
   have m1 := HM2.out.cell 1
   have m2 := HM2.out.cell 2
   have m3 := HM2.out.cell 3
   have m4 := HM2.out.cell 4
   have m5 := HM2.out.cell 5
   have ml := HM2.out.lt
   simp only [gz_, gs_] at m0 m1 m2 m3 m4 m5
   go_wp2_with fail
   go_ret
   exact ⟨b0u HV.out.symm, HB2.out⟩
  rw [if_neg h2] at HV
  go_enter Tryz.func75, Tryz.ntmps75
  go_wp2_with fail
  refine (HR.out _).mono ?_
  rintro e w2 ⟨rfl, hb⟩
  have HB2 := h_ (bt_ HB1.out hb)
  have HM2 := h_ (HM.out.below hb)
  clear hb HB1 HM HR
  have m0 := HM2.out.cell 0
  have m1 := HM2.out.cell 1
  have m2 := HM2.out.cell 2
  have m3 := HM2.out.cell 3
  have m4 := HM2.out.cell 4
  have m5 := HM2.out.cell 5
  have ml := HM2.out.lt
  simp only [gz_, gs_] at m0 m1 m2 m3 m4 m5
  go_wp2_with fail
  go_ret
  exact ⟨b0u HV.out.symm, HB2.out⟩
 have h14b : (op == 14) = false := beq_eq_false_iff_ne.2 h14
 have HBR := h_ (fun w => q0b op d n m imm kind w)
 by_cases hbr : brB op = true
 ·rw [if_pos (.inr hbr)] at HV
  rw [show (op == 15 || op == 16 || op == 17) = true from hbr] at HBR
  clear hbr h14
  by_cases h1 : imm < 1
  ·rw [if_pos h1] at HV
   go_enter Tryz.func75, Tryz.ntmps75
   go_wp2_with fail
   refine (HR.out _).mono ?_
   rintro e w2 ⟨rfl, hb⟩
   have HB2 := h_ (bt_ HB1.out hb)
   have HM2 := h_ (HM.out.below hb)
   clear hb HB1 HM HR
   have m0 := HM2.out.cell 0
   have m1 := HM2.out.cell 1
   have m2 := HM2.out.cell 2
   have m3 := HM2.out.cell 3
   have m4 := HM2.out.cell 4
   have m5 := HM2.out.cell 5
   have ml := HM2.out.lt
   simp only [gz_, gs_] at m0 m1 m2 m3 m4 m5
   go_wp2_with fail
   refine (HBR.out _).mono ?_
   rintro e w3 ⟨rfl, hb⟩
   have HB3 := h_ (bt_ HB2.out hb)
   have HM3 := h_ (HM2.out.below hb)
   clear hb m0 m1 m2 m3 m4 m5 ml
   have m4 := HM3.out.cell 4
   have ml := HM3.out.lt
   simp only [gz_, gs_] at m4
   go_wp2_with fail
   go_ret
   exact ⟨b0u HV.out.symm, HB3.out⟩
  rw [if_neg h1] at HV
  by_cases h2 : (left : Int) < imm
  ·rw [if_pos h2] at HV
   go_enter Tryz.func75, Tryz.ntmps75
   go_wp2_with fail
   refine (HR.out _).mono ?_
   rintro e w2 ⟨rfl, hb⟩
   have HB2 := h_ (bt_ HB1.out hb)
   have HM2 := h_ (HM.out.below hb)
   clear hb HB1 HM HR
   have m0 := HM2.out.cell 0
   have m1 := HM2.out.cell 1
   have m2 := HM2.out.cell 2
   have m3 := HM2.out.cell 3
   have m4 := HM2.out.cell 4
   have m5 := HM2.out.cell 5
   have ml := HM2.out.lt
   simp only [gz_, gs_] at m0 m1 m2 m3 m4 m5
   go_wp2_with fail
   refine (HBR.out _).mono ?_
   rintro e w3 ⟨rfl, hb⟩
   have HB3 := h_ (bt_ HB2.out hb)
   have HM3 := h_ (HM2.out.below hb)
   clear hb m0 m1 m2 m3 m4 m5 ml
   have m4 := HM3.out.cell 4
   have ml := HM3.out.lt
   simp only [gz_, gs_] at m4
   go_wp2_with fail
   go_ret
   exact ⟨b0u HV.out.symm, HB3.out⟩
  rw [if_neg h2] at HV
  go_enter Tryz.func75, Tryz.ntmps75
  go_wp2_with fail
  refine (HR.out _).mono ?_
  rintro e w2 ⟨rfl, hb⟩
  have HB2 := h_ (bt_ HB1.out hb)
  have HM2 := h_ (HM.out.below hb)
  clear hb HB1 HM HR
  have m0 := HM2.out.cell 0
  have m1 := HM2.out.cell 1
  have m2 := HM2.out.cell 2
  have m3 := HM2.out.cell 3
  have m4 := HM2.out.cell 4
  have m5 := HM2.out.cell 5
  have ml := HM2.out.lt
  simp only [gz_, gs_] at m0 m1 m2 m3 m4 m5
  go_wp2_with fail
  refine (HBR.out _).mono ?_
  rintro e w3 ⟨rfl, hb⟩
  have HB3 := h_ (bt_ HB2.out hb)
  have HM3 := h_ (HM2.out.below hb)
  clear hb m0 m1 m2 m3 m4 m5 ml
  have m4 := HM3.out.cell 4
  have ml := HM3.out.lt
  simp only [gz_, gs_] at m4
  go_wp2_with fail
  go_ret
  exact ⟨b0u HV.out.symm, HB3.out⟩
 ·rw [if_neg (fun q => q.elim h14 hbr)] at HV
  rw [show (op == 15 || op == 16 || op == 17) = false from Bool.eq_false_iff.2 hbr] at HBR
  clear hbr h14
  go_enter Tryz.func75, Tryz.ntmps75
  go_wp2_with fail
  refine (HR.out _).mono ?_
  rintro e w2 ⟨rfl, hb⟩
  have HB2 := h_ (bt_ HB1.out hb)
  have HM2 := h_ (HM.out.below hb)
  clear hb HB1 HM HR
  have m0 := HM2.out.cell 0
  have m1 := HM2.out.cell 1
  have m2 := HM2.out.cell 2
  have m3 := HM2.out.cell 3
  have m4 := HM2.out.cell 4
  have m5 := HM2.out.cell 5
  have ml := HM2.out.lt
  simp only [gz_, gs_] at m0 m1 m2 m3 m4 m5
  go_wp2_with fail
  refine (HBR.out _).mono ?_
  rintro e w3 ⟨rfl, hb⟩
  have HB3 := h_ (bt_ HB2.out hb)
  have HM3 := h_ (HM2.out.below hb)
  clear hb m0 m1 m2 m3 m4 m5 ml
  have m4 := HM3.out.cell 4
  have ml := HM3.out.lt
  simp only [gz_, gs_] at m4
  go_wp2_with fail
  go_ret
  exact ⟨b0u HV.out.symm, HB3.out⟩
end
section
open Go.RowKit
theorem i1j {w : World} {g off : Nat} {l : List Ins} (h : Rds w 6 (some ⟨g, off, none⟩) l.length (insL l)) {j : Nat} (hj : j < l.length) : w.cell? ⟨g, off + j * 6, none⟩ = some (.int .i64 l[j].op) ∧ w.cell? ⟨g, off + j * 6 + 1, none⟩ = some (.int .i64 l[j].d) ∧ w.cell? ⟨g, off + j * 6 + 2, none⟩ = some (.int .i64 l[j].n) ∧ w.cell? ⟨g, off + j * 6 + 3, none⟩ = some (.int .i64 l[j].m) ∧ w.cell? ⟨g, off + j * 6 + 4, none⟩ = some (.int .i64 l[j].imm) ∧ w.cell? ⟨g, off + j * 6 + 5, none⟩ = some (.int .i64 l[j].kind) := by
 obtain ⟨g', off', hp, q⟩ := k0h h hj
 injection hp with hp
 injection hp with h1 h2
 subst h1 h2
 exact q
theorem q0l (w : World) {p : Option Addr} {n c : Nat} {l : List Ins} (cores : Nat) (hA : Rds w 6 p n (insL l)) (hn : n ≤ 20000) (hcs : cores ≤ 20000) :
  Calls Tryz.prog 50 #[.slice p n c, .int .i64 (cores : Nat)] w fun e w' => e = .returned (.tuple #[.int .i64 ((b0x cores l).1 : Nat), .int .i64 ((b0x cores l).2 : Nat)]) ∧ Below w.heap.size w w' := by
 obtain rfl : n = l.length := by have := hA.1; rw [o0c] at this; omega
 have HR := h_ hA
 have HS := h_ hn
 have hc0 : (0 : Int) ≤ cores := by omega
 have hc1 : (cores : Int) ≤ 20000 := by omega
 have HC := h_ hcs
 clear hA hn hcs
 go_enter Tryz.func50, Tryz.ntmps50
 go_wp2_with fail
 go_loopw [6, 7, 8] (fun a b i wr => ∃ k : Nat, k ≤ l.length ∧ a = .int .i64 ((b0x cores (l.take k)).1 : Nat) ∧ b = .int .i64 ((b0x cores (l.take k)).2 : Nat) ∧ i = .int .i64 k ∧ Below w.heap.size w wr) (fun _ _ i _ => l.length - (intOf i).toNat)
 case atStart => exact ⟨0, by omega, rfl, rfl, rfl, Below.refl _ _⟩
 case round =>
  obtain ⟨k, hk, rfl, rfl, rfl, hbr⟩ := hrel
  have HR3 := h_ (HR.out.below hbr)
  have HBR := h_ hbr
  clear hbr
  have hS2 := HS.out
  by_cases hkl : k < l.length
  ·have hk0 : (0 : Int) ≤ k := by omega
   have hkn : (k : Int) < l.length := by omega
   obtain ⟨g, off, rfl, a0, a1, a2, a3, a4, a5⟩ := k0h HR3.out hkl
   have HCL := h_ (fun (w2 : World) (hb : Below wr.heap.size wr w2) => i1j (HR3.out.below hb) hkl)
   have HW := h_ (o0o (cores := cores) hkl)
   have hbig := f0n (cores := cores) (l := l.take k) (by have := HS.out; simp; omega) HC.out
   generalize l[k] = x at *
   obtain ⟨op, d, n, m, imm, kind⟩ := x
   dsimp only at a0 a1 a2 a3 a4 a5 HCL
   generalize b0x cores (l.take k) = W at *
   obtain ⟨we, wa⟩ := W
   dsimp only at hbig ⊢
   obtain ⟨hbe, hba⟩ := hbig
   have hbe0 : (0 : Int) ≤ we := by omega
   have hbe1 : (we : Int) ≤ 400060000 := by omega
   have hba0 : (0 : Int) ≤ wa := by omega
   have hba1 : (wa : Int) ≤ 20000 := by omega
   have HV : j0y cores ⟨op, d, n, m, imm, kind⟩ = if accB op = true then (3, 1) else if op = 21 ∧ kind < 4 then (1 + cores, 0) else if op = 21 then (2, 0) else (0, 0) := rfl
   rw [HV] at HW
   clear HV
   have HLO := h_ (fun w => e1w op d n m imm kind w)
   have HSO := h_ (fun w => y0x op d n m imm kind w)
   go_wp2_with fail
   refine (HLO.out _).mono ?_
   rintro e w3 ⟨rfl, hb⟩
   have HB3 := h_ (bt_ HBR.out hb)
   have HBW := h_ hb
   obtain ⟨a0, a1, a2, a3, a4, a5⟩ := HCL.out w3 hb
   clear hb
   have HAC : Hid (accB op = ((op == 2 || op == 4) || (op == 3 || op == 5))) := h_ rfl
   cases hl1 : (op == 2 || op == 4)
   ·rw [hl1, Bool.false_or] at HAC
    go_wp2_with fail
    refine (HSO.out _).mono ?_
    rintro e w4 ⟨rfl, hb⟩
    have HB4 := h_ (bt_ HB3.out hb)
    obtain ⟨a0, a1, a2, a3, a4, a5⟩ := HCL.out w4 (bt_ HBW.out hb)
    clear hb
    cases hl2 : (op == 3 || op == 5)
    ·rw [hl2] at HAC
     rw [HAC.out, if_neg (by decide)] at HW
     clear hl1 hl2
     by_cases h21 : op = 21
     ·subst h21
      by_cases h4 : kind < 4
      ·rw [if_pos ⟨rfl, h4⟩] at HW
       go_wp2_with fail
       go_roundw
       case rel => exact ⟨k + 1, by omega, by rw [HW.out]; go_num, by rw [HW.out]; go_num, by go_num, HB4.out⟩
       case measure => simp [intOf] <;> omega
      ·rw [if_neg (fun q => h4 q.2), if_pos rfl] at HW
       go_wp2_with fail
       go_roundw
       case rel => exact ⟨k + 1, by omega, by rw [HW.out]; go_num, by rw [HW.out]; go_num, by go_num, HB4.out⟩
       case measure => simp [intOf] <;> omega
     ·rw [if_neg (fun q => h21 q.1), if_neg h21] at HW
      have e21 : (op == 21) = false := beq_eq_false_iff_ne.2 h21
      go_wp2_with fail
      go_roundw
      case rel => exact ⟨k + 1, by omega, by rw [HW.out]; go_num, by rw [HW.out]; go_num, by go_num, HB4.out⟩
      case measure => simp [intOf] <;> omega
    ·rw [hl2] at HAC
     rw [HAC.out, if_pos rfl] at HW
     have h21 : ¬ op = 21 := by rintro rfl; simp at hl2
     have e21 : (op == 21) = false := beq_eq_false_iff_ne.2 h21
     clear hl1 hl2 h21
     go_wp2_with fail
     go_roundw
     case rel => exact ⟨k + 1, by omega, by rw [HW.out]; go_num, by rw [HW.out]; go_num, by go_num, HB4.out⟩
     case measure => simp [intOf] <;> omega
   ·rw [hl1, Bool.true_or] at HAC
    rw [HAC.out, if_pos rfl] at HW
    have h21 : ¬ op = 21 := by rintro rfl; simp at hl1
    have e21 : (op == 21) = false := beq_eq_false_iff_ne.2 h21
    clear hl1 h21
    go_wp2_with fail
    go_roundw
    case rel => exact ⟨k + 1, by omega, by rw [HW.out]; go_num, by rw [HW.out]; go_num, by go_num, HB3.out⟩
    case measure => simp [intOf] <;> omega
  ·obtain rfl : k = l.length := by omega
   have e : l.take l.length = l := List.take_length
   rw [e]
   go_wp2_with fail
   go_ret2
   exact ⟨rfl, HBR.out⟩
theorem o0x (w : World) {x : GSrc} {v : SrcV} (h : GRd w x v) :
  Calls Tryz.prog 18 #[.agg #[.string x.name, v.vC, v.vCo, .bool x.fa, v.k0, v.k1, v.k2, v.k3, v.k4, v.k5]] w fun e w' => e = .returned (.int .i64 (b0m x.cores.length x.cores : Nat)) ∧ Below w.heap.size w w' := by
 obtain ⟨p1, c1, e1, R1, hc1⟩ := h.cores
 have HB1 := h_ (show Below w.heap.size w (w.alloc (.cells #[.string x.name, v.vC, v.vCo, .bool x.fa, v.k0, v.k1, v.k2, v.k3, v.k4, v.k5] 31)) from bl_ (Below.refl _ _) _)
 have HG := h_ (h.below HB1.out)
 have HM := h_ (show Blk (w.alloc (.cells #[.string x.name, v.vC, v.vCo, .bool x.fa, v.k0, v.k1, v.k2, v.k3, v.k4, v.k5] 31)) 31 w.heap.size [.string x.name, v.vC, v.vCo, .bool x.fa, v.k0, v.k1, v.k2, v.k3, v.k4, v.k5] from (Blk.new w _ _))
 clear h R1
 have HS := h_ HG.out.sizes
 have HV := h_ e1
 rw [e1] at HB1 HM HG ⊢
 have hS2 := HS.out.cores
 go_enter Tryz.func18, Tryz.ntmps18
 have hb0 := HM.out.lt
 have m2 := HM.out.cell 2
 simp only [gz_, gs_] at m2
 go_wp2_with fail
 generalize w.alloc (.cells #[.string x.name, v.vC, .slice p1 x.cores.length c1, .bool x.fa, v.k0, v.k1, v.k2, v.k3, v.k4, v.k5] 31) = w1 at *
 clear hb0 m2
 go_loopw [3, 4] (fun a i wr => ∃ k : Nat, k ≤ x.cores.length ∧ a = .int .i64 (b0m x.cores.length (x.cores.take k) : Nat) ∧ i = .int .i64 k ∧ Below w1.heap.size w1 wr) (fun _ i _ => x.cores.length - (intOf i).toNat)
 case atStart => exact ⟨0, by omega, rfl, rfl, Below.refl _ _⟩
 case round =>
  obtain ⟨k, hk, rfl, rfl, hbr⟩ := hrel
  have HG2 := h_ (HG.out.below hbr)
  have HM2 := h_ (HM.out.below hbr)
  have HBR := h_ hbr
  clear hbr
  have hb0 := HM2.out.lt
  have m2 := HM2.out.cell 2
  simp only [gz_, gs_] at m2
  by_cases hkl : k < x.cores.length
  ·have hk0 : (0 : Int) ≤ k := by omega
   have hkn : (k : Int) < x.cores.length := by omega
   obtain ⟨g, off, cv, rfl, hc, ⟨pr, cr, er, _, _⟩, ⟨pc, cc, ec, Rc, _⟩, ⟨ph, ch, eh, Rh, _⟩⟩ := HG2.out.coreAt HV.out hkl
   have hsz := HS.out.code x.cores[k] (by simp)
   have HW := h_ (n0o (cores := x.cores.length) hkl)
   have HBIG := h_ (p0o (k := k) (cores := x.cores.length) HS.out.cores HS.out.cores HS.out.code)
   have a3 := hc 3 (by omega)
   have a4 := hc 4 (by omega)
   clear hc
   rw [← Nat.add_assoc] at a3 a4
   simp only [e0p, Nat.add_zero, gz_, gs_] at a3 a4
   generalize x.cores[k] = y at *
   obtain ⟨regs, space, table, code, hand⟩ := y
   obtain ⟨vr, vc, vh⟩ := cv
   dsimp only at er ec eh hsz Rc Rh a3 a4
   subst er ec eh
   have HC := h_ (fun w2 (hb : Below wr.heap.size wr w2) => q0l w2 (c := cc) x.cores.length (Rc.below hb) hsz.1 HS.out.cores)
   have HH := h_ (fun w2 (hb : Below wr.heap.size wr w2) => q0l w2 (c := ch) x.cores.length (Rh.below hb) hsz.2.1 HS.out.cores)
   have HE1 := h_ (show p0p x.cores.length ⟨regs, space, table, code, hand⟩ = (b0x x.cores.length code).1 + (b0x x.cores.length code).2 * (b0x x.cores.length hand).1 from rfl)
   have HWC := h_ (f0n (cores := x.cores.length) hsz.1 HS.out.cores)
   have HWH := h_ (f0n (cores := x.cores.length) hsz.2.1 HS.out.cores)
   have HA4 := h_ a4
   clear Rc Rh hsz a4
   go_wp2_with fail
   refine wp_region_held_drew (S := (fun w' => w'.cell? ⟨w.heap.size, 2, none⟩ = some (.slice (some ⟨g, off, none⟩) x.cores.length c1) ∧ w'.cell? ⟨g, off + k * 5 + 3, none⟩ = some (.slice pc code.length cc))) (by kernel_rfl) (by (try dsimp only); exact ⟨m2, a3⟩) (fun hHeld => ?_)
   refine tk1 0 17 rfl ?_
   simp only [Act.put, tka, tk0, tkS]
   refine tk1 1 18 rfl ?_
   simp only [Act.put, tka, tk0, tkS]
   refine tk1 2 19 rfl ?_
   simp only [Act.put, tka, tk0, tkS]
   refine tk1 3 20 rfl ?_
   simp only [Act.put, tka, tk0, tkS]
   refine tk1 4 21 rfl ?_
   simp only [Act.put, tka, tk0, tkS]
   refine tk1 5 22 rfl ?_
   simp only [Act.put, tka, tk0, tkS]
   refine tk1 6 23 rfl ?_
   simp only [Act.put, tka, tk0, tkS]
   refine tk1 7 24 rfl ?_
   simp only [Act.put, tka, tk0, tkS]
   refine tk1 8 25 rfl ?_
   simp only [Act.put, tka, tk0, tkS]
   refine wpAnyH_ready (rs := [9]) (by kernel_rfl) (by simp) ?_
   refine AllReadyH.cons (o := ⟨some 26, _, _, _, _, _⟩) rfl (fun K hK => ?_) AllReadyH.nil
   go_simp
   go_at_call 50; refine (HC.out _ ((Below.refl _ _).drew)).mono ?_; rintro e wA ⟨rfl, bwA0⟩; have bwA := bt_ ((Below.refl wr.heap.size wr).drew) bwA0
   refine hK.out _ _ (by (try dsimp only); exact ⟨cell_below m2 bwA, cell_below a3 bwA⟩) ?_
   clear hK K hHeld
   intro hHeld
   try simp only [Act.put, tka, tk0, tkS]
   refine tk1 10 16 rfl ?_
   simp only [Act.put, tka, tk0, tkS]
   refine tk1 11 27 rfl ?_
   simp only [Act.put, tka, tk0, tkS]
   refine tk1 12 28 rfl ?_
   simp only [Act.put, tka, tk0, tkS]
   refine tk1 13 5 rfl ?_
   simp only [Act.put, tka, tk0, tkS]
   refine tk1 14 6 rfl ?_
   simp only [Act.put, tka, tk0, tkS]
   refine wpAnyH_done (by kernel_rfl) ?_ _
   have HM3 := h_ (HM2.out.below bwA)
   have HBA := h_ bwA
   have a4 := cell_below HA4.out bwA
   clear m2 hb0 a3 hHeld
   have hb0 := HM3.out.lt
   have m2 := HM3.out.cell 2
   simp only [gz_, gs_] at m2
   go_wp2_with fail
   refine wp_region_held_drew (S := (fun w' => w'.cell? ⟨w.heap.size, 2, none⟩ = some (.slice (some ⟨g, off, none⟩) x.cores.length c1) ∧ w'.cell? ⟨g, off + k * 5 + 4, none⟩ = some (.slice ph hand.length ch))) (by kernel_rfl) (by (try dsimp only); exact ⟨m2, a4⟩) (fun hHeld => ?_)
   refine tk1 0 30 rfl ?_
   simp only [Act.put, tka, tk0, tkS]
   refine tk1 1 31 rfl ?_
   simp only [Act.put, tka, tk0, tkS]
   refine tk1 2 32 rfl ?_
   simp only [Act.put, tka, tk0, tkS]
   refine tk1 3 33 rfl ?_
   simp only [Act.put, tka, tk0, tkS]
   refine tk1 4 34 rfl ?_
   simp only [Act.put, tka, tk0, tkS]
   refine tk1 5 35 rfl ?_
   simp only [Act.put, tka, tk0, tkS]
   refine tk1 6 36 rfl ?_
   simp only [Act.put, tka, tk0, tkS]
   refine tk1 7 37 rfl ?_
   simp only [Act.put, tka, tk0, tkS]
   refine tk1 8 38 rfl ?_
   simp only [Act.put, tka, tk0, tkS]
   refine wpAnyH_ready (rs := [9]) (by kernel_rfl) (by simp) ?_
   refine AllReadyH.cons (o := ⟨some 39, _, _, _, _, _⟩) rfl (fun K hK => ?_) AllReadyH.nil
   go_simp
   go_at_call 50; refine (HH.out _ (HBA.out.drew)).mono ?_; rintro e wB ⟨rfl, bwB0⟩; have bwB := bt_ ((Below.refl wA.heap.size wA).drew) bwB0
   refine hK.out _ _ (by (try dsimp only); exact ⟨cell_below m2 bwB, cell_below a4 bwB⟩) ?_
   clear hK K hHeld
   intro hHeld
   try simp only [Act.put, tka, tk0, tkS]
   refine tk1 10 29 rfl ?_
   simp only [Act.put, tka, tk0, tkS]
   refine tk1 11 40 rfl ?_
   simp only [Act.put, tka, tk0, tkS]
   refine tk1 12 41 rfl ?_
   simp only [Act.put, tka, tk0, tkS]
   refine tk1 13 7 rfl ?_
   simp only [Act.put, tka, tk0, tkS]
   refine tk1 14 8 rfl ?_
   simp only [Act.put, tka, tk0, tkS]
   refine wpAnyH_done (by kernel_rfl) ?_ _
   have HB4 := h_ (bt_ HBR.out (bt_ HBA.out bwB))
   rw [HE1.out] at HW
   have hBIG := HBIG.out
   have hWC := HWC.out
   have hWH := HWH.out
   have hmul := Nat.mul_le_mul hWC.2 hWH.1
   generalize b0m x.cores.length (x.cores.take k) = E at *
   generalize b0x x.cores.length code = WC at *
   generalize b0x x.cores.length hand = WH at *
   obtain ⟨ce, ca⟩ := WC
   obtain ⟨he, ha⟩ := WH
   dsimp only at hWC hWH hmul ⊢
   have hP : ((ca : Int) * (he : Int)) = ((ca * he : Nat) : Int) := by simp
   have hW2 := HW.out
   dsimp only at hW2
   have HN2 := h_ hW2
   have HP := h_ hP
   have HBG := h_ (And.intro hBIG (And.intro hWC (And.intro hWH hmul)))
   clear hW2 hP hBIG hWC hWH hmul m2 a4 hb0 hHeld
   go_wp2_with fail
   go_roundw
   case rel =>
    refine ⟨k + 1, by omega, ?_, by go_num, HB4.out⟩
    rw [HN2.out, HP.out]
    obtain ⟨q1, q2, q3, q4⟩ := HBG.out
    generalize ca * he = Q at *
    rw [show wrap64 (Q : Int) = Q by unfold wrap64; omega, show wrap64 ((E : Int) + ce) = (E : Int) + ce by unfold wrap64; omega, show wrap64 ((E : Int) + ce + Q) = ((E + (ce + Q) : Nat) : Int) by unfold wrap64; omega]
   case measure => simp [intOf] <;> omega
  ·obtain rfl : k = x.cores.length := by omega
   have e : x.cores.take x.cores.length = x.cores := List.take_length
   rw [e]
   go_wp2_with fail
   go_ret
   exact ⟨rfl, bt_ HB1.out HBR.out⟩
end
end Go.Proofs.YtmnojnopejhebaaGreat
