/- granuleref13.Check. -/
import Derived.Test.YtmnojnopejhebaaGreatMgaj
import Derived.Test.YtmnojnopejhebaaGreatMgam
import Derived.Test.YtmnojnopejhebaaGreatMgbk
namespace Go.Proofs.YtmnojnopejhebaaGreat
set_option linter.unusedVariables false
set_option linter.unusedSimpArgs false
set_option maxRecDepth 100000
set_option maxHeartbeats 25600000
section
open Go.RowKit
theorem t0l (w : World) {pT pP pr pc ph : Option Addr} {cT cP cr cc ch : Nat} {tabs : List Nat} {c : GCore} {at_ : Int} {pl : List Int} (hT : Rds w 1 pT tabs.length (tabs.map u64V)) (hP : Rds w 1 pP pl.length (pl.map i64V)) (hc : Rds w 6 pc c.code.length (insL c.code)) (hh : Rds w 6 ph c.hand.length (insL c.hand)) (ht : tabs.length ≤ 20000) (hp : pl.length ≤ maxLen) (h1 : c.code.length ≤ 20000) (h2 : c.hand.length ≤ 20000) (h3 : c.table < 18446744073709551616) :
  Calls Tryz.prog 47 #[.agg #[.slice pr c.regs.length cr, .int .i64 c.space, .int .u64 (c.table : Nat), .slice pc c.code.length cc, .slice ph c.hand.length ch], .slice pT tabs.length cT, .int .i64 at_, .slice pP pl.length cP] w fun e w' => e = .returned (.tuple #[.int .i64 (d0p tabs c at_ pl).1, .int .i64 (d0p tabs c at_ pl).2]) ∧ Below w.heap.size w w' := by
 have HT := h_ (show ∀ a : Int × Int, d0p tabs c at_ pl = a → Ending.returned (.tuple #[.int .i64 a.1, .int .i64 a.2]) = Ending.returned (.tuple #[.int .i64 (d0p tabs c at_ pl).1, .int .i64 (d0p tabs c at_ pl).2]) from fun a e => by rw [e])
 obtain ⟨regs, space, table, code, hand⟩ := c
 dsimp only at hc hh h1 h2 h3 HT ⊢
 have HV := h_ (show d0p tabs ⟨regs, space, table, code, hand⟩ at_ pl = (if ¬ table % 4096 = 0 then (133, at_) else if ¬ table ∈ tabs then (131, at_) else if space < 0 ∨ 65536 ≤ space then (1, at_) else if 16 < code.length then (136, a0i pl 16) else if 16 < hand.length then (136, a0i pl (code.length + 16)) else if ¬ (c0s false 0 code).2 = 0 then ((c0s false 0 code).2, a0i pl (c0s false 0 code).1) else if ¬ (c0s true 0 hand).2 = 0 then ((c0s true 0 hand).2, a0i pl (code.length + (c0s true 0 hand).1)) else (0, 0)) from rfl)
 have HB1 := h_ (show Below w.heap.size w (w.alloc (.cells #[.slice pr regs.length cr, .int .i64 space, .int .u64 (table : Nat), .slice pc code.length cc, .slice ph hand.length ch] 82)) from bl_ (Below.refl _ _) _)
 have HRT := h_ (hT.below HB1.out)
 have HRC := h_ (hc.below HB1.out)
 have HRH := h_ (hh.below HB1.out)
 have HM := h_ (show Blk (w.alloc (.cells #[.slice pr regs.length cr, .int .i64 space, .int .u64 (table : Nat), .slice pc code.length cc, .slice ph hand.length ch] 82)) 82 w.heap.size [.slice pr regs.length cr, .int .i64 space, .int .u64 (table : Nat), .slice pc code.length cc, .slice ph hand.length ch] from Blk.new w _ _)
 have HAT := h_ (fun (w2 : World) (hb : Below w.heap.size w w2) (k : Nat) (hk : k < 4611686018427387904) => r0s w2 (c := cP) (hP.below hb) hp k hk)
 have htl : (tabs.length : Int) ≤ 20000 := by omega
 have hcl : (code.length : Int) ≤ 20000 := by omega
 have hhl : (hand.length : Int) ≤ 20000 := by omega
 have HS1 := h_ h1
 have HS2 := h_ h2
 clear hT hP hc hh ht hp h3 h1 h2
 go_enter Tryz.func47, Tryz.ntmps47
 have m1 := HM.out.cell 1
 have m2 := HM.out.cell 2
 have m3 := HM.out.cell 3
 have m4 := HM.out.cell 4
 have ml := HM.out.lt
 simp only [gz_, gs_] at m1 m2 m3 m4
 by_cases ht4 : ¬ table % 4096 = 0
 ·rw [if_pos ht4] at HV
  have ht4b : ((table : Int) % 4096 == 0) = false := beq_eq_false_iff_ne.2 (by omega)
  clear ht4
  go_wp2_with fail
  go_ret2
  exact ⟨HT.out _ HV.out, HB1.out⟩
 rw [if_neg ht4] at HV
 have ht4b : ((table : Int) % 4096 == 0) = true := beq_iff_eq.2 (by omega)
 clear ht4
 go_wp2_with fail
 generalize (w.alloc (.cells #[.slice pr regs.length cr, .int .i64 space, .int .u64 (table : Nat), .slice pc code.length cc, .slice ph hand.length ch] 82)) = w1 at *
 clear m1 m2 m3 m4 ml
 go_loopw [10, 11] (fun b i wr => ∃ k : Nat, k ≤ tabs.length ∧ b = .bool (decide (table ∈ tabs.take k)) ∧ i = .int .i64 k ∧ Below w1.heap.size w1 wr) (fun _ i _ => tabs.length - (intOf i).toNat)
 case atStart => exact ⟨0, Nat.zero_le _, rfl, rfl, Below.refl _ _⟩
 case round =>
  obtain ⟨k, hk, rfl, rfl, hbr⟩ := hrel
  have HM2 := h_ (HM.out.below hbr)
  have HBR := h_ (bt_ HB1.out hbr)
  have m1 := HM2.out.cell 1
  have m2 := HM2.out.cell 2
  have m3 := HM2.out.cell 3
  have m4 := HM2.out.cell 4
  have ml := HM2.out.lt
  simp only [gz_, gs_] at m1 m2 m3 m4
  by_cases hkl : k < tabs.length
  ·have hkn : (k : Int) < tabs.length := by omega
   obtain ⟨g, off, rfl, c0⟩ := k0g (HRT.out.below hbr) hkl
   have HTM := h_ (x0e hkl table)
   generalize tabs.getD k 0 = x at *
   by_cases hkn2 : table ∈ tabs.take k
   ·have HD2 := h_ (show decide (table ∈ tabs.take (k + 1)) = true from decide_eq_true (HTM.out.2 (.inl hkn2)))
    rw [decide_eq_true hkn2]
    clear hkn2
    go_wp2_with fail
    go_quiet (fail)
    go_wp2_with fail
    go_roundw
    case rel => exact ⟨k + 1, by omega, by rw [HD2.out], by go_num, bd_ hbr _⟩
    case measure => simp [intOf] <;> omega
   ·have HD2 := h_ (show decide (table ∈ tabs.take (k + 1)) = ((x : Int) == table) from by
     by_cases h : x = table
     ·subst h; simp [HTM.out]
     ·rw [show ((x : Int) == table) = false from beq_eq_false_iff_ne.2 (by omega)]; exact decide_eq_false (fun q => (HTM.out.1 q).elim hkn2 h))
    rw [decide_eq_false hkn2]
    clear hkn2
    go_wp2_with fail
    go_quiet (fail)
    go_wp2_with fail
    go_roundw
    case rel => exact ⟨k + 1, by omega, by rw [HD2.out], by go_num, bd_ hbr _⟩
    case measure => simp [intOf] <;> omega
  ·obtain rfl : k = tabs.length := by omega
   rw [List.take_length]
   clear hkl
   have HBK := h_ hbr
   have HRC2 := h_ (HRC.out.below hbr)
   have HRH2 := h_ (HRH.out.below hbr)
   clear hbr HM HB1 HRC HRH HRT
   by_cases hin : ¬ table ∈ tabs
   ·rw [if_pos hin] at HV
    rw [decide_eq_false hin]
    clear hin
    go_wp2_with fail
    go_ret2
    exact ⟨HT.out _ HV.out, HBR.out⟩
   rw [if_neg hin] at HV
   rw [decide_eq_true (Decidable.not_not.1 hin)]
   clear hin
   by_cases hsp : space < 0
   ·rw [if_pos (.inl hsp)] at HV
    go_wp2_with fail
    go_ret2
    exact ⟨HT.out _ HV.out, HBR.out⟩
   by_cases hsp2 : 65535 < space
   ·rw [if_pos (.inr (by omega))] at HV
    go_wp2_with fail
    go_ret2
    exact ⟨HT.out _ HV.out, HBR.out⟩
   rw [if_neg (by omega)] at HV
   by_cases h16 : 16 < code.length
   ·have h16' : (16 : Int) < code.length := by omega
    rw [if_pos h16] at HV
    clear h16
    go_wp2_with fail
    refine (HAT.out _ HBR.out 16 (by omega)).mono ?_
    rintro e wz ⟨rfl, jz, rfl⟩
    go_wp2_with fail
    go_ret2
    exact ⟨HT.out _ HV.out, bd_ HBR.out _⟩
   have h16' : (code.length : Int) ≤ 16 := by omega
   rw [if_neg h16] at HV
   by_cases h17 : 16 < hand.length
   ·have h17' : (16 : Int) < hand.length := by omega
    rw [if_pos h17] at HV
    have HQ := h_ (HAT.out _ HBR.out (code.length + 16) (by omega))
    rw [show ((code.length + 16 : Nat) : Int) = (code.length : Int) + 16 by omega] at HQ
    clear h17
    go_wp2_with fail
    refine (HQ.out).mono ?_
    rintro e wz ⟨rfl, jz, rfl⟩
    go_wp2_with fail
    go_ret2
    exact ⟨HT.out _ HV.out, bd_ HBR.out _⟩
   have h17' : (hand.length : Int) ≤ 16 := by omega
   rw [if_neg h17] at HV
   clear h16 h17
   go_wp2_with fail
   clear m1 m2 m3 m4 ml
   generalize wr = w2 at *
   go_loopw [12] (fun i wr => ∃ k : Nat, k ≤ code.length ∧ i = .int .i64 k ∧ Hid (c0s false k (code.drop k) = c0s false 0 code) ∧ Below w2.heap.size w2 wr) (fun i _ => code.length - (intOf i).toNat)
   case atStart => exact ⟨0, Nat.zero_le _, rfl, h_ rfl, Below.refl _ _⟩
   case round =>
    obtain ⟨k, hk, rfl, HE, hbx⟩ := hrel
    have HMX := h_ (HM2.out.below hbx)
    have m1 := HMX.out.cell 1
    have m2 := HMX.out.cell 2
    have m3 := HMX.out.cell 3
    have m4 := HMX.out.cell 4
    have ml := HMX.out.lt
    simp only [gz_, gs_] at m1 m2 m3 m4
    by_cases hkl : k < code.length
    ·have hkn : (k : Int) < code.length := by omega
     obtain ⟨g, off, rfl, a0, a1, a2, a3, a4, a5⟩ := k0h (HRC2.out.below hbx) hkl
     have HDR := h_ (fun e (he : insE code[k] (code.length - k) false = e) h0 => HE.out.symm.trans (m0z hkl e he h0))
     have HNX := h_ (fun (he : insE code[k] (code.length - k) false = 0) => (m0y hkl he).symm.trans HE.out)
     generalize code[k] = x at *
     obtain ⟨op, d, n, m, imm, kind⟩ := x
     dsimp only at a0 a1 a2 a3 a4 a5
     have HIN := h_ (fun w => q0m op d n m imm kind (code.length - k) false w)
     rw [show ((code.length - k : Nat) : Int) = IntKind.i64.wrap ((code.length : Int) - k) by rw [IntWalk.i64_in _ (by omega)]; omega] at HIN
     have HBX := h_ hbx
     generalize insE ⟨op, d, n, m, imm, kind⟩ (code.length - k) false = E at *
     clear hbx
     go_wp2_with fail
     refine wp_region_held_drew (S := (fun w' => w'.cell? ⟨w.heap.size, 3, none⟩ = some (.slice (some ⟨g, off, none⟩) code.length cc) ∧ w'.cell? ⟨g, off + k * 6, none⟩ = some (.int .i64 op) ∧ w'.cell? ⟨g, off + k * 6 + 1, none⟩ = some (.int .i64 d) ∧ w'.cell? ⟨g, off + k * 6 + 2, none⟩ = some (.int .i64 n) ∧ w'.cell? ⟨g, off + k * 6 + 3, none⟩ = some (.int .i64 m) ∧ w'.cell? ⟨g, off + k * 6 + 4, none⟩ = some (.int .i64 imm) ∧ w'.cell? ⟨g, off + k * 6 + 5, none⟩ = some (.int .i64 kind))) (by kernel_rfl) (by (try dsimp only); exact ⟨m3, a0, a1, a2, a3, a4, a5⟩) (fun hHeld => ?_)
     refine tk1 0 72 rfl ?_
     simp only [Act.put, tka, tk0, tkS]
     refine tk1 1 73 rfl ?_
     simp only [Act.put, tka, tk0, tkS]
     refine tk1 2 74 rfl ?_
     simp only [Act.put, tka, tk0, tkS]
     refine tk1 3 75 rfl ?_
     simp only [Act.put, tka, tk0, tkS]
     refine tk1 4 76 rfl ?_
     simp only [Act.put, tka, tk0, tkS]
     refine tk1 5 77 rfl ?_
     simp only [Act.put, tka, tk0, tkS]
     refine tk1 6 78 rfl ?_
     simp only [Act.put, tka, tk0, tkS]
     refine tk1 7 79 rfl ?_
     simp only [Act.put, tka, tk0, tkS]
     refine tk1 8 80 rfl ?_
     simp only [Act.put, tka, tk0, tkS]
     refine tk1 9 81 rfl ?_
     simp only [Act.put, tka, tk0, tkS]
     refine wpAnyH_ready (rs := [10]) (by kernel_rfl) (by simp) ?_
     refine AllReadyH.cons (o := ⟨some 82, _, _, _, _, _⟩) rfl (fun K hK => ?_) AllReadyH.nil
     go_simp
     go_at_call 75; refine (HIN.out _).mono ?_; rintro e wA ⟨rfl, bwA0⟩; have bwA := bt_ ((Below.refl wr.heap.size wr).drew) bwA0
     refine hK.out _ _ (by (try dsimp only); exact ⟨cell_below m3 bwA, cell_below a0 bwA, cell_below a1 bwA, cell_below a2 bwA, cell_below a3 bwA, cell_below a4 bwA, cell_below a5 bwA⟩) ?_
     clear hK K hHeld
     intro hHeld
     try simp only [Act.put, tka, tk0, tkS]
     refine tk1 11 13 rfl ?_
     simp only [Act.put, tka, tk0, tkS]
     refine wpAnyH_done (by kernel_rfl) ?_ _
     have HBA := h_ (bt_ HBX.out bwA)
     clear a0 a1 a2 a3 a4 a5 hHeld m1 m2 m3 m4 ml
     have HMA := h_ (HM2.out.below HBA.out)
     have m1 := HMA.out.cell 1
     have m2 := HMA.out.cell 2
     have m3 := HMA.out.cell 3
     have m4 := HMA.out.cell 4
     have ml := HMA.out.lt
     simp only [gz_, gs_] at m1 m2 m3 m4
     by_cases hE : E = 0
     ·have HX := h_ (HNX.out hE)
      have hEb : (E != 0) = false := by rw [hE]; rfl
      clear HDR HNX
      go_wp2_with fail
      go_roundw
      case rel => exact ⟨k + 1, by omega, by go_num, HX, HBA.out⟩
      case measure => simp [intOf] <;> omega
     ·have HX := h_ (HDR.out E rfl hE)
      have hEb : (E != 0) = true := bne_iff_ne.2 hE
      rw [HX.out] at HV
      dsimp only at HV
      rw [if_pos hE] at HV
      clear HDR HNX hE
      have HQ := h_ (HAT.out _ (bt_ HBR.out HBA.out) (k) (by have := HS1.out; have := HS2.out; omega))
      go_wp2_with fail
      refine (HQ.out).mono ?_
      rintro e wz ⟨rfl, jz, rfl⟩
      go_wp2_with fail
      go_ret2
      exact ⟨HT.out _ HV.out, bd_ (bt_ HBR.out HBA.out) _⟩
    ·obtain rfl : k = code.length := by omega
     have HF := h_ (HE.out.symm.trans p0v)
     rw [HF.out] at HV
     dsimp only at HV
     rw [if_neg (show ¬ ¬ (0 : Int) = 0 by decide)] at HV
     clear HF HE hkl
     have HB5 := h_ (bt_ HBR.out hbx)
     have HRH3 := h_ (HRH2.out.below hbx)
     have HM5 := h_ HMX.out
     clear hbx
     go_wp2_with fail
     clear m1 m2 m3 m4 ml
     generalize wr = w4 at *
     go_loopw [14] (fun i wr => ∃ k : Nat, k ≤ hand.length ∧ i = .int .i64 k ∧ Hid (c0s true k (hand.drop k) = c0s true 0 hand) ∧ Below w4.heap.size w4 wr) (fun i _ => hand.length - (intOf i).toNat)
     case atStart => exact ⟨0, Nat.zero_le _, rfl, h_ rfl, Below.refl _ _⟩
     case round =>
      obtain ⟨k, hk, rfl, HE, hbx⟩ := hrel
      have HMX := h_ (HM5.out.below hbx)
      have m1 := HMX.out.cell 1
      have m2 := HMX.out.cell 2
      have m3 := HMX.out.cell 3
      have m4 := HMX.out.cell 4
      have ml := HMX.out.lt
      simp only [gz_, gs_] at m1 m2 m3 m4
      by_cases hkl : k < hand.length
      ·have hkn : (k : Int) < hand.length := by omega
       obtain ⟨g, off, rfl, a0, a1, a2, a3, a4, a5⟩ := k0h (HRH3.out.below hbx) hkl
       have HDR := h_ (fun e (he : insE hand[k] (hand.length - k) true = e) h0 => HE.out.symm.trans (m0z hkl e he h0))
       have HNX := h_ (fun (he : insE hand[k] (hand.length - k) true = 0) => (m0y hkl he).symm.trans HE.out)
       generalize hand[k] = x at *
       obtain ⟨op, d, n, m, imm, kind⟩ := x
       dsimp only at a0 a1 a2 a3 a4 a5
       have HIN := h_ (fun w => q0m op d n m imm kind (hand.length - k) true w)
       rw [show ((hand.length - k : Nat) : Int) = IntKind.i64.wrap ((hand.length : Int) - k) by rw [IntWalk.i64_in _ (by omega)]; omega] at HIN
       have HBX := h_ hbx
       generalize insE ⟨op, d, n, m, imm, kind⟩ (hand.length - k) true = E at *
       clear hbx
       go_wp2_with fail
       refine wp_region_held_drew (S := (fun w' => w'.cell? ⟨w.heap.size, 4, none⟩ = some (.slice (some ⟨g, off, none⟩) hand.length ch) ∧ w'.cell? ⟨g, off + k * 6, none⟩ = some (.int .i64 op) ∧ w'.cell? ⟨g, off + k * 6 + 1, none⟩ = some (.int .i64 d) ∧ w'.cell? ⟨g, off + k * 6 + 2, none⟩ = some (.int .i64 n) ∧ w'.cell? ⟨g, off + k * 6 + 3, none⟩ = some (.int .i64 m) ∧ w'.cell? ⟨g, off + k * 6 + 4, none⟩ = some (.int .i64 imm) ∧ w'.cell? ⟨g, off + k * 6 + 5, none⟩ = some (.int .i64 kind))) (by kernel_rfl) (by (try dsimp only); exact ⟨m4, a0, a1, a2, a3, a4, a5⟩) (fun hHeld => ?_)
       refine tk1 0 96 rfl ?_
       simp only [Act.put, tka, tk0, tkS]
       refine tk1 1 97 rfl ?_
       simp only [Act.put, tka, tk0, tkS]
       refine tk1 2 98 rfl ?_
       simp only [Act.put, tka, tk0, tkS]
       refine tk1 3 99 rfl ?_
       simp only [Act.put, tka, tk0, tkS]
       refine tk1 4 100 rfl ?_
       simp only [Act.put, tka, tk0, tkS]
       refine tk1 5 101 rfl ?_
       simp only [Act.put, tka, tk0, tkS]
       refine tk1 6 102 rfl ?_
       simp only [Act.put, tka, tk0, tkS]
       refine tk1 7 103 rfl ?_
       simp only [Act.put, tka, tk0, tkS]
       refine tk1 8 104 rfl ?_
       simp only [Act.put, tka, tk0, tkS]
       refine tk1 9 105 rfl ?_
       simp only [Act.put, tka, tk0, tkS]
       refine wpAnyH_ready (rs := [10]) (by kernel_rfl) (by simp) ?_
       refine AllReadyH.cons (o := ⟨some 106, _, _, _, _, _⟩) rfl (fun K hK => ?_) AllReadyH.nil
       go_simp
       go_at_call 75; refine (HIN.out _).mono ?_; rintro e wA ⟨rfl, bwA0⟩; have bwA := bt_ ((Below.refl wr.heap.size wr).drew) bwA0
       refine hK.out _ _ (by (try dsimp only); exact ⟨cell_below m4 bwA, cell_below a0 bwA, cell_below a1 bwA, cell_below a2 bwA, cell_below a3 bwA, cell_below a4 bwA, cell_below a5 bwA⟩) ?_
       clear hK K hHeld
       intro hHeld
       try simp only [Act.put, tka, tk0, tkS]
       refine tk1 11 15 rfl ?_
       simp only [Act.put, tka, tk0, tkS]
       refine wpAnyH_done (by kernel_rfl) ?_ _
       have HBA := h_ (bt_ HBX.out bwA)
       clear a0 a1 a2 a3 a4 a5 hHeld m1 m2 m3 m4 ml
       have HMA := h_ (HM5.out.below HBA.out)
       have m1 := HMA.out.cell 1
       have m2 := HMA.out.cell 2
       have m3 := HMA.out.cell 3
       have m4 := HMA.out.cell 4
       have ml := HMA.out.lt
       simp only [gz_, gs_] at m1 m2 m3 m4
       by_cases hE : E = 0
       ·have HX := h_ (HNX.out hE)
        have hEb : (E != 0) = false := by rw [hE]; rfl
        clear HDR HNX
        go_wp2_with fail
        go_roundw
        case rel => exact ⟨k + 1, by omega, by go_num, HX, HBA.out⟩
        case measure => simp [intOf] <;> omega
       ·have HX := h_ (HDR.out E rfl hE)
        have hEb : (E != 0) = true := bne_iff_ne.2 hE
        rw [HX.out] at HV
        dsimp only at HV
        rw [if_pos hE] at HV
        clear HDR HNX hE
        have HQ := h_ (HAT.out _ (bt_ HB5.out HBA.out) (code.length + k) (by have := HS1.out; have := HS2.out; omega))
        rw [show ((code.length + k : Nat) : Int) = (code.length : Int) + k by omega] at HQ
        go_wp2_with fail
        refine (HQ.out).mono ?_
        rintro e wz ⟨rfl, jz, rfl⟩
        go_wp2_with fail
        go_ret2
        exact ⟨HT.out _ HV.out, bd_ (bt_ HB5.out HBA.out) _⟩
      ·obtain rfl : k = hand.length := by omega
       have HF := h_ (HE.out.symm.trans p0v)
       rw [HF.out] at HV
       dsimp only at HV
       rw [if_neg (show ¬ ¬ (0 : Int) = 0 by decide)] at HV
       have HB6 := h_ (bt_ HB5.out hbx)
       go_wp2_with fail
       go_ret2
       exact ⟨HT.out _ HV.out, HB6.out⟩
end
section
open Go.RowKit
theorem i1i {w : World} {g off : Nat} {l : List Nat} (h : Rds w 1 (some ⟨g, off, none⟩) l.length (l.map u64V)) {j : Nat} (hj : j < l.length) : w.cell? ⟨g, off + j, none⟩ = some (.int .u64 ((l.getD j 0 : Nat) : Int)) := by
 obtain ⟨g', off', hp, q⟩ := k0g h hj
 injection hp with hp
 injection hp with h1 h2
 subst h1 h2
 exact q
theorem t0k {w : World} {g off : Nat} {l : List (Nat × Nat)} (h : Rds w 2 (some ⟨g, off, none⟩) l.length (cellL l)) {j : Nat} (hj : j < l.length) : w.cell? ⟨g, off + j * 2, none⟩ = some (.int .u64 (((l.map Prod.fst).getD j 0 : Nat) : Int)) := by
 obtain ⟨g', off', hp, q, _⟩ := l0u h hj
 injection hp with hp
 injection hp with h1 h2
 subst h1 h2
 exact q
theorem z0k (w : World) {x : GSrc} {v : SrcV} (h : GRd w x v) :
  Calls Tryz.prog 16 #[.agg #[.string x.name, v.vC, v.vCo, .bool x.fa, v.k0, v.k1, v.k2, v.k3, v.k4, v.k5, v.vT, v.vPT, v.vPC, v.vPCo, v.vPI, .int .i64 x.pCond, .int .i64 0]] w fun e w' => e = .returned (.tuple #[.int .i64 (b0y x).1, .int .i64 (b0y x).2]) ∧ Below w.heap.size w w' := by
 have HT := h_ (show ∀ a : Int × Int, b0y x = a → Ending.returned (.tuple #[.int .i64 a.1, .int .i64 a.2]) = Ending.returned (.tuple #[.int .i64 (b0y x).1, .int .i64 (b0y x).2]) from fun a e => by rw [e])
 obtain ⟨p0, c0, e0, R0, hc0⟩ := h.cells
 obtain ⟨p1, c1, e1, R1, hc1⟩ := h.tables
 obtain ⟨p2, c2, e2, R2, _⟩ := h.cores
 obtain ⟨p3, c3, e3, R3, _⟩ := h.pCo
 obtain ⟨p4, c4, e4, R4, _⟩ := h.pI
 obtain ⟨p5, c5, e5, R5, _⟩ := h.pT
 obtain ⟨p6, c6, e6, R6, _⟩ := h.pC
 have HS := h_ h.sizes
 have HG0 := h_ h
 clear h R2 R4
 obtain ⟨nm, cells, cores, fa, cond, tables, pT, pC, pCo, pI, pCond⟩ := x
 obtain ⟨vC, vCo, k0, k1, k2, k3, k4, k5, vT, vPT, vPC, vPCo, vPI, cvs, ivs⟩ := v
 dsimp only at e0 e1 e2 e3 e4 e5 e6 HS HT HG0 R0 R1 R3 R5 R6 hc0 hc1 ⊢
 subst e0 e1 e2 e3 e4 e5 e6
 have HB1 := h_ (show Below w.heap.size w (w.alloc (.cells #[.string nm, .slice p0 cells.length c0, .slice p2 cores.length c2, .bool fa, k0, k1, k2, k3, k4, k5, .slice p1 tables.length c1, .slice p5 pT.length c5, .slice p6 pC.length c6, .slice p3 pCo.length c3, .slice p4 pI.length c4, .int .i64 pCond, .int .i64 0] 53)) from bl_ (Below.refl _ _) _)
 have HM := h_ (show Blk (w.alloc (.cells #[.string nm, .slice p0 cells.length c0, .slice p2 cores.length c2, .bool fa, k0, k1, k2, k3, k4, k5, .slice p1 tables.length c1, .slice p5 pT.length c5, .slice p6 pC.length c6, .slice p3 pCo.length c3, .slice p4 pI.length c4, .int .i64 pCond, .int .i64 0] 53)) 53 w.heap.size [.string nm, .slice p0 cells.length c0, .slice p2 cores.length c2, .bool fa, k0, k1, k2, k3, k4, k5, .slice p1 tables.length c1, .slice p5 pT.length c5, .slice p6 pC.length c6, .slice p3 pCo.length c3, .slice p4 pI.length c4, .int .i64 pCond, .int .i64 0] from Blk.new w _ _)
 have HG := h_ (HG0.out.below HB1.out)
 have HR0 := h_ (R0.below HB1.out)
 have HR1 := h_ (R1.below HB1.out)
 have HAT := h_ (fun (w2 : World) (hb : Below w.heap.size w w2) (k : Nat) (hk : k < 4611686018427387904) => r0s w2 (c := c5) (R5.below hb) HS.out.pT k hk)
 have HAC := h_ (fun (w2 : World) (hb : Below w.heap.size w w2) (k : Nat) (hk : k < 4611686018427387904) => r0s w2 (c := c6) (R6.below hb) HS.out.pC k hk)
 have HAO := h_ (fun (w2 : World) (hb : Below w.heap.size w w2) (k : Nat) (hk : k < 4611686018427387904) => r0s w2 (c := c3) (R3.below hb) HS.out.pCo k hk)
 have htl : (tables.length : Int) ≤ 20000 := by have := HS.out.tables; dsimp only at this; omega
 have hcl : (cells.length : Int) ≤ 20000 := by have := HS.out.cells; dsimp only at this; omega
 have hkl0 : (cores.length : Int) ≤ 20000 := by have := HS.out.cores; dsimp only at this; omega
 clear R0 R1 R3 R5 R6 HG0 hc0 hc1
 go_enter Tryz.func16, Tryz.ntmps16
 go_wp2_with fail
 generalize (w.alloc (.cells #[.string nm, .slice p0 cells.length c0, .slice p2 cores.length c2, .bool fa, k0, k1, k2, k3, k4, k5, .slice p1 tables.length c1, .slice p5 pT.length c5, .slice p6 pC.length c6, .slice p3 pCo.length c3, .slice p4 pI.length c4, .int .i64 pCond, .int .i64 0] 53)) = w1 at *
 go_loopw [4] (fun i wr => ∃ k : Nat, k ≤ tables.length ∧ i = .int .i64 k ∧ Hid (b0g pT (tables.take k) (tables.drop k) = b0g pT [] tables) ∧ Below w1.heap.size w1 wr) (fun i _ => tables.length - (intOf i).toNat)
 case atStart => exact ⟨0, Nat.zero_le _, rfl, h_ rfl, Below.refl _ _⟩
 case round =>
  obtain ⟨k, hk, rfl, HE, hbr⟩ := hrel
  have HM2 := h_ (HM.out.below hbr)
  have HBR := h_ (bt_ HB1.out hbr)
  have m10 := HM2.out.cell 10
  have m11 := HM2.out.cell 11
  have ml := HM2.out.lt
  simp only [gz_, gs_] at m10 m11
  by_cases hkl : k < tables.length
  ·have hkn : (k : Int) < tables.length := by omega
   obtain ⟨g, off, rfl, c0'⟩ := k0g (HR1.out.below hbr) hkl
   have HX := h_ (fun (a : Int × Int) (h : b0g pT (tables.take k) (tables.drop k) = a) (h0 : ¬ a.1 = 0) => (a1z (x := ⟨nm, cells, cores, fa, cond, tables, pT, pC, pCo, pI, pCond⟩) (by show ¬ (b0g pT [] tables).1 = 0; rw [← HE.out, h]; exact h0)).trans (HE.out.symm.trans h))
   have HD1 := h_ (@n0h pT tables k hkl)
   have HD2 := h_ (@o0u pT tables k hkl)
   have HD3 := h_ (@n0g pT tables k hkl)
   have HB := h_ hbr
   clear hbr
   obtain ⟨z, hz⟩ : ∃ z : Nat, z = tables.getD k 0 := ⟨_, rfl⟩
   rw [← hz] at c0' HD1 HD2 HD3
   have HZ := h_ hz
   clear hz
   obtain ⟨zi, hzi⟩ : ∃ zi : Int, zi = (z : Int) := ⟨_, rfl⟩
   rw [← hzi] at c0'
   have hzi0 : (0 : Int) ≤ zi := by omega
   have HBB : Hid (n0t z = (decide (z % 4096 = 0) && decide (z < 4294967296))) := h_ rfl
   by_cases hz1 : ¬ z % 4096 = 0
   ·have hzb : (zi % 4096 != 0) = true := bne_iff_ne.2 (by omega)
    have HF := h_ (HX.out _ (HD1.out (by rw [HBB.out, decide_eq_false hz1]; rfl)) (by show ¬ (133 : Int) = 0; decide))
    clear hz1 HX HD1 HD2 HD3 hzi
    go_wp2_with fail
    refine (HAT.out _ HBR.out k (by omega)).mono ?_
    rintro e wz ⟨rfl, jz, rfl⟩
    go_wp2_with fail
    go_ret2
    exact ⟨HT.out _ HF.out, bd_ HBR.out _⟩
   have hzb : (zi % 4096 != 0) = false := by rw [show zi % 4096 = 0 by omega]; rfl
   by_cases hz2 : ¬ z < 4294967296
   ·have hz2' : (4294967296 : Int) ≤ zi := by omega
    have HF := h_ (HX.out _ (HD1.out (by rw [HBB.out, decide_eq_false hz2, Bool.and_false])) (by show ¬ (133 : Int) = 0; decide))
    clear hz1 hz2 HX HD1 HD2 HD3 hzi
    go_wp2_with fail
    refine (HAT.out _ HBR.out k (by omega)).mono ?_
    rintro e wz ⟨rfl, jz, rfl⟩
    go_wp2_with fail
    go_ret2
    exact ⟨HT.out _ HF.out, bd_ HBR.out _⟩
   have hz2' : zi < (4294967296 : Int) := by omega
   have HOK := h_ (show ¬ n0t z = false by rw [HBB.out, decide_eq_true (Decidable.not_not.1 hz1), decide_eq_true (Decidable.not_not.1 hz2)]; decide)
   clear hz1 hz2
   have HZI := h_ hzi
   clear hzi
   go_wp2_with fail
   clear c0' m10 m11 ml
   generalize wr = w2 at *
   go_loopw [6] (fun i wr => ∃ r : Nat, r ≤ k ∧ i = .int .i64 r ∧ Hid (∀ i, i < r → ¬ tables.getD i 0 = z) ∧ Below w2.heap.size w2 wr) (fun i _ => k - (intOf i).toNat)
   case atStart => exact ⟨0, Nat.zero_le _, rfl, h_ (fun i hi => absurd hi (Nat.not_lt_zero _)), Below.refl _ _⟩
   case round =>
    obtain ⟨r, hr, rfl, HDr, hb2⟩ := hrel
    have HM3 := h_ (HM2.out.below hb2)
    have m10 := HM3.out.cell 10
    have m11 := HM3.out.cell 11
    have ml := HM3.out.lt
    simp only [gz_, gs_] at m10 m11
    by_cases hrk : r < k
    ·have hrn : (r : Int) < k := by omega
     have hrn2 : (r : Int) < tables.length := by omega
     have c1' := i1i ((HR1.out.below HB.out).below hb2) (show r < tables.length by omega)
     have HIN := h_ (show tables.getD r 0 = z → b0g pT (tables.take k) (tables.drop k) = (132, a0i pT k) from fun e => HD2.out HOK.out r hrk e)
     have HNE := h_ (show ¬ tables.getD r 0 = z → ∀ i, i < r + 1 → ¬ tables.getD i 0 = z from fun h i hi => by
      by_cases e : i = r
      ·rw [e]; exact h
      ·exact HDr.out i (by omega))
     generalize tables.getD r 0 = y at *
     by_cases hyz : y = z
     ·have HF := h_ (HX.out _ (HIN.out hyz) (by show ¬ (132 : Int) = 0; decide))
      have hyb : ((y : Int) == zi) = true := beq_iff_eq.2 (by rw [HZI.out, hyz])
      clear hyz HX HD1 HD2 HD3 HIN HNE
      go_wp2_with fail
      refine (HAT.out _ (bt_ HBR.out hb2) k (by omega)).mono ?_
      rintro e wz ⟨rfl, jz, rfl⟩
      go_wp2_with fail
      go_ret2
      exact ⟨HT.out _ HF.out, bd_ (bt_ HBR.out hb2) _⟩
     ·have HN2 := h_ (HNE.out hyz)
      have hyb : ((y : Int) == zi) = false := beq_eq_false_iff_ne.2 (by rw [HZI.out]; omega)
      clear hyz HIN HNE
      go_wp2_with fail
      go_roundw
      case rel => exact ⟨r + 1, by omega, by go_num, HN2, hb2⟩
      case measure => simp [intOf] <;> omega
    ·obtain rfl : r = k := by omega
     have HE2 := h_ ((HD3.out HOK.out HDr.out).symm.trans HE.out)
     go_wp2_with fail
     go_roundw
     case rel => exact ⟨r + 1, by omega, by go_num, HE2, bt_ HB.out hb2⟩
     case measure => simp [intOf] <;> omega
  ·obtain rfl : k = tables.length := by omega
   clear m10 m11 ml
   have m1 := HM2.out.cell 1
   have m10 := HM2.out.cell 10
   have m12 := HM2.out.cell 12
   have ml := HM2.out.lt
   simp only [gz_, gs_] at m1 m10 m12
   have HA0 := h_ (show (b0g pT [] tables).1 = 0 by rw [← HE.out, o0t])
   have HB2 := h_ hbr
   clear hbr HE hkl
   by_cases h192 : 192 < cells.length
   ·have h192' : (192 : Int) < cells.length := by omega
    have HK := h_ (show d0n ⟨nm, cells, cores, fa, cond, tables, pT, pC, pCo, pI, pCond⟩ = (2, a0i pC 192) from by unfold d0n; rw [if_pos h192])
    have HF := h_ ((n0a (x := ⟨nm, cells, cores, fa, cond, tables, pT, pC, pCo, pI, pCond⟩) HA0.out (by rw [HK.out]; show ¬ (2 : Int) = 0; decide)).trans HK.out)
    clear h192
    go_wp2_with fail
    refine (HAC.out _ HBR.out 192 (by omega)).mono ?_
    rintro e wz ⟨rfl, jz, rfl⟩
    go_wp2_with fail
    go_ret2
    exact ⟨HT.out _ HF.out, bd_ HBR.out _⟩
   have h192' : (cells.length : Int) ≤ 192 := by omega
   have HK := h_ (show d0n ⟨nm, cells, cores, fa, cond, tables, pT, pC, pCo, pI, pCond⟩ = cellsE pC [] (cells.map Prod.fst) from by unfold d0n; rw [if_neg h192])
   clear h192
   go_wp2_with fail
   clear m1 m10 m12 ml
   have HM5 := h_ HM2.out
   have HR05 := h_ (HR0.out.below HB2.out)
   generalize wr = w5 at *
   go_loopw [7] (fun i wr => ∃ k : Nat, k ≤ cells.length ∧ i = .int .i64 k ∧ Hid (cellsE pC ((cells.map Prod.fst).take k) ((cells.map Prod.fst).drop k) = cellsE pC [] (cells.map Prod.fst)) ∧ Below w5.heap.size w5 wr) (fun i _ => cells.length - (intOf i).toNat)
   case atStart => exact ⟨0, Nat.zero_le _, rfl, h_ rfl, Below.refl _ _⟩
   case round =>
    obtain ⟨k, hk, rfl, HE, hbr⟩ := hrel
    have HM6 := h_ (HM5.out.below hbr)
    have HBR6 := h_ (bt_ HBR.out hbr)
    have m1 := HM6.out.cell 1
    have m12 := HM6.out.cell 12
    have ml := HM6.out.lt
    simp only [gz_, gs_] at m1 m12
    by_cases hkl : k < cells.length
    ·have hkn : (k : Int) < cells.length := by omega
     obtain ⟨g, off, rfl, c0', -⟩ := l0u (HR05.out.below hbr) hkl
     have hkm : k < (cells.map Prod.fst).length := by rw [List.length_map]; exact hkl
     have HX := h_ (fun (a : Int × Int) (h : cellsE pC ((cells.map Prod.fst).take k) ((cells.map Prod.fst).drop k) = a) (h0 : ¬ a.1 = 0) => (n0a (x := ⟨nm, cells, cores, fa, cond, tables, pT, pC, pCo, pI, pCond⟩) HA0.out (by rw [HK.out, ← HE.out, h]; exact h0)).trans (HK.out.trans (HE.out.symm.trans h)))
     have HD1 := h_ (@p0y pC (cells.map Prod.fst) k hkm)
     have HD2 := h_ (@r0h pC (cells.map Prod.fst) k hkm)
     have HD3 := h_ (@p0x pC (cells.map Prod.fst) k hkm)
     have HLT := h_ (show (cells.map Prod.fst).getD k 0 < 18446744073709551616 by
      have e : (cells.map Prod.fst).getD k 0 = cells[k].1 := by simp [List.getD, List.getElem?_eq_getElem hkl]
      rw [e]; exact (HS.out.clt _ (List.getElem_mem hkl)).1)
     have HB := h_ hbr
     clear hbr hkm
     obtain ⟨z, hz⟩ : ∃ z : Nat, z = (cells.map Prod.fst).getD k 0 := ⟨_, rfl⟩
     rw [← hz] at c0' HD1 HD2 HD3 HLT
     have HZ := h_ hz
     clear hz
     have HCK := h_ (fun w => v0p z w HLT.out)
     go_wp2_with fail
     refine (HCK.out _).mono ?_
     rintro e w6 ⟨rfl, j6, rfl⟩
     by_cases ha : f0e z = 0
     ·have HOK := h_ (show ¬ ¬ f0e z = 0 from fun h => h ha)
      have hab : (f0e z != 0) = false := by rw [ha]; rfl
      clear ha
      go_wp2_with fail
      clear c0' m1 m12 ml
      have HM7 := h_ (HM6.out.dn j6)
      have HB7 := h_ (bd_ HB.out j6)
      have HBR7 := h_ (bd_ HBR6.out j6)
      generalize wr.drewN j6 = w7 at *
      go_loopw [9] (fun i wr => ∃ r : Nat, r ≤ k ∧ i = .int .i64 r ∧ Hid (∀ i, i < r → ¬ (cells.map Prod.fst).getD i 0 = z) ∧ Below w7.heap.size w7 wr) (fun i _ => k - (intOf i).toNat)
      case atStart => exact ⟨0, Nat.zero_le _, rfl, h_ (fun i hi => absurd hi (Nat.not_lt_zero _)), Below.refl _ _⟩
      case round =>
       obtain ⟨r, hr, rfl, HDr, hb2⟩ := hrel
       have HM8 := h_ (HM7.out.below hb2)
       have m1 := HM8.out.cell 1
       have m12 := HM8.out.cell 12
       have ml := HM8.out.lt
       simp only [gz_, gs_] at m1 m12
       by_cases hrk : r < k
       ·have hrn : (r : Int) < k := by omega
        have hrn2 : (r : Int) < cells.length := by omega
        have c1' := t0k ((HR05.out.below HB7.out).below hb2) (show r < cells.length by omega)
        have c2' := t0k ((HR05.out.below HB7.out).below hb2) hkl
        rw [← HZ.out] at c2'
        have HIN := h_ (show (cells.map Prod.fst).getD r 0 = z → cellsE pC ((cells.map Prod.fst).take k) ((cells.map Prod.fst).drop k) = (130, a0i pC k) from fun e => HD2.out HOK.out r hrk e)
        have HNE := h_ (show ¬ (cells.map Prod.fst).getD r 0 = z → ∀ i, i < r + 1 → ¬ (cells.map Prod.fst).getD i 0 = z from fun h i hi => by
         by_cases e : i = r
         ·rw [e]; exact h
         ·exact HDr.out i (by omega))
        generalize (cells.map Prod.fst).getD r 0 = y at *
        by_cases hyz : y = z
        ·have HF := h_ (HX.out _ (HIN.out hyz) (by show ¬ (130 : Int) = 0; decide))
         have hyb : ((y : Int) == z) = true := beq_iff_eq.2 (by rw [hyz])
         clear hyz HX HD1 HD2 HD3 HIN HNE
         go_wp2_with fail
         go_quiet (fail)
         go_wp2_with fail
         refine (HAC.out _ (bd_ (bt_ HBR7.out hb2) _) k (by omega)).mono ?_
         rintro e wz ⟨rfl, jz, rfl⟩
         go_wp2_with fail
         go_ret2
         exact ⟨HT.out _ HF.out, bd_ (bt_ HBR7.out hb2) _⟩
        ·have HN2 := h_ (HNE.out hyz)
         have hyb : ((y : Int) == z) = false := beq_eq_false_iff_ne.2 (by omega)
         clear hyz HIN HNE
         go_wp2_with fail
         go_quiet (fail)
         go_wp2_with fail
         go_roundw
         case rel => exact ⟨r + 1, by omega, by go_num, HN2, bd_ hb2 _⟩
         case measure => simp [intOf] <;> omega
       ·obtain rfl : r = k := by omega
        have HE2 := h_ ((HD3.out HOK.out HDr.out).symm.trans HE.out)
        go_wp2_with fail
        go_roundw
        case rel => exact ⟨r + 1, by omega, by go_num, HE2, bt_ HB7.out hb2⟩
        case measure => simp [intOf] <;> omega
     ·have HF := h_ (HX.out _ (HD1.out ha) ha)
      have hab : (f0e z != 0) = true := bne_iff_ne.2 ha
      generalize f0e z = ae at *
      clear ha HX HD1 HD2 HD3
      go_wp2_with fail
      refine (HAC.out _ (bd_ HBR6.out j6) k (by omega)).mono ?_
      rintro e wz ⟨rfl, jz, rfl⟩
      go_wp2_with fail
      go_ret2
      exact ⟨HT.out _ HF.out, bd_ HBR6.out _⟩
    ·obtain rfl : k = cells.length := by omega
     have HC0 := h_ (show (d0n ⟨nm, cells, cores, fa, cond, tables, pT, pC, pCo, pI, pCond⟩).1 = 0 from by
      rw [HK.out, ← HE.out]
      have q := @r0g pC (cells.map Prod.fst)
      rw [List.length_map] at q
      rw [q])
     clear HE hkl m1 m12 ml
     have m1 := HM6.out.cell 1
     have m2 := HM6.out.cell 2
     have m13 := HM6.out.cell 13
     have m14 := HM6.out.cell 14
     have ml := HM6.out.lt
     simp only [gz_, gs_] at m1 m2 m13 m14
     have HTC := h_ (show ToCores ⟨nm, cells, cores, fa, cond, tables, pT, pC, pCo, pI, pCond⟩ from ⟨HA0.out, HC0.out⟩)
     have HNL : Hid ((⟨nm, cells, cores, fa, cond, tables, pT, pC, pCo, pI, pCond⟩ : GSrc).cores.length = cores.length) := h_ rfl
     by_cases hn1 : cores.length = 0
     ·have hn1' : (cores.length : Int) < 1 := by omega
      have HF := h_ (HTC.out.num (.inl hn1))
      clear hn1
      go_wp2_with fail
      refine (HAO.out _ HBR6.out 4 (by omega)).mono ?_
      rintro e wz ⟨rfl, jz, rfl⟩
      go_wp2_with fail
      go_ret2
      exact ⟨HT.out _ HF.out, bd_ HBR6.out _⟩
     have hn1' : (1 : Int) ≤ cores.length := by omega
     by_cases hn4 : 4 < cores.length
     ·have hn4' : (4 : Int) < cores.length := by omega
      have HF := h_ (HTC.out.num (.inr hn4))
      clear hn1 hn4
      go_wp2_with fail
      refine (HAO.out _ HBR6.out 4 (by omega)).mono ?_
      rintro e wz ⟨rfl, jz, rfl⟩
      go_wp2_with fail
      go_ret2
      exact ⟨HT.out _ HF.out, bd_ HBR6.out _⟩
     have hn4' : (cores.length : Int) ≤ 4 := by omega
     have HNN := h_ (show ¬ ((⟨nm, cells, cores, fa, cond, tables, pT, pC, pCo, pI, pCond⟩ : GSrc).cores.length = 0 ∨ 4 < (⟨nm, cells, cores, fa, cond, tables, pT, pC, pCo, pI, pCond⟩ : GSrc).cores.length) from fun q => q.elim hn1 hn4)
     clear hn1 hn4
     have HG9 := h_ (HG.out.below (bt_ HB2.out hbr))
     have HBW9 := h_ hbr
     clear hbr
     go_wp2_with fail
     clear m1 m2 m13 m14 ml
     have HM9 := h_ HM6.out
     have HBR9 := h_ HBR6.out
     generalize wr = w9 at *
     go_loopw [11] (fun i wr => ∃ k : Nat, k ≤ cores.length ∧ i = .int .i64 k ∧ Hid (e0q ⟨nm, cells, cores, fa, cond, tables, pT, pC, pCo, pI, pCond⟩ k (cores.drop k) = e0q ⟨nm, cells, cores, fa, cond, tables, pT, pC, pCo, pI, pCond⟩ 0 cores) ∧ Below w9.heap.size w9 wr) (fun i _ => cores.length - (intOf i).toNat)
     case atStart => exact ⟨0, Nat.zero_le _, rfl, h_ rfl, Below.refl _ _⟩
     case round =>
      obtain ⟨k, hk, rfl, HE, hbr⟩ := hrel
      have HMK := h_ (HM9.out.below hbr)
      have HGK := h_ (HG9.out.below hbr)
      have HBK := h_ hbr
      have HBRK := h_ (bt_ HBR9.out hbr)
      clear hbr
      by_cases hkl : k < cores.length
      ·have hkn : (k : Int) < cores.length := by omega
       have m2 := HMK.out.cell 2
       have m10 := HMK.out.cell 10
       have m13 := HMK.out.cell 13
       have m14 := HMK.out.cell 14
       have ml := HMK.out.lt
       simp only [gz_, gs_] at m2 m10 m13 m14
       obtain ⟨g, off, cv, rfl, hc, ⟨pr, cr, er, _, _⟩, ⟨pc, cc, ec, Rc, _⟩, ⟨ph, ch, eh, Rh, _⟩⟩ := HGK.out.coreAt rfl hkl
       have hsz := HS.out.code cores[k] (by simp)
       have hklt := (HS.out.klt cores[k] (by simp)).1
       have HGood := h_ (fun h => (p0t (x := ⟨nm, cells, cores, fa, cond, tables, pT, pC, pCo, pI, pCond⟩) hkl h).symm.trans HE.out)
       have HBad := h_ (fun h => HE.out.symm.trans (r0b (x := ⟨nm, cells, cores, fa, cond, tables, pT, pC, pCo, pI, pCond⟩) hkl h))
       have a0 := hc 0 (by omega)
       have a1 := hc 1 (by omega)
       have a2 := hc 2 (by omega)
       have a3 := hc 3 (by omega)
       have a4 := hc 4 (by omega)
       clear hc
       rw [← Nat.add_assoc] at a1 a2 a3 a4
       simp only [e0p, Nat.add_zero, gz_, gs_] at a0 a1 a2 a3 a4
       dsimp only at hsz hklt HGood HBad a0 a1 a2 a3 a4 er ec eh Rc Rh
       generalize cores[k] = y at *
       obtain ⟨regs, space, table, code, hand⟩ := y
       obtain ⟨vr, vc, vh⟩ := cv
       dsimp only at er ec eh hsz hklt Rc Rh a0 a1 a2 a3 a4
       subst er ec eh
       unfold u64V at a2
       have HTK := h_ ((HR1.out.below HB2.out).below HBW9.out |>.below HBK.out)
       have hpiL : (pI.length : Int) ≤ 9223372036854775807 := by have := HS.out.pI; dsimp only at this; unfold maxLen at this; omega
       by_cases hki : k < pI.length
       ·have hkin : (k : Int) < pI.length := by omega
        obtain ⟨g4, off4, pq, cq, rfl, hi, Rq, hql⟩ := HGK.out.insAt rfl hki
        dsimp only at hi Rq hql
        clear hki
        have HCO := h_ (fun (w8 : World) (hb : Below wr.heap.size wr w8) => t0l w8 (c := ⟨regs, space, table, code, hand⟩) (cr := cr) (pr := pr) (cT := c1) (cP := cq) (cc := cc) (ch := ch) (at_ := a0i pCo k) (HTK.out.below hb) (Rq.below hb) (Rc.below hb) (Rh.below hb) HS.out.tables hql hsz.1 hsz.2.1 hklt)
        dsimp only at HCO
        clear Rc Rh hsz hklt Rq hql
        go_wp2_with fail
        clear hi
        generalize d0p tables ⟨regs, space, table, code, hand⟩ (a0i pCo k) (pI.getD k []) = A at *
        obtain ⟨da, db⟩ := A
        dsimp only at HCO HGood HBad
        refine wp_region_held_drew (S := (fun w' => w'.cell? ⟨w.heap.size, 2, none⟩ = some (.slice (some ⟨g, off, none⟩) cores.length c2) ∧ w'.cell? ⟨w.heap.size, 10, none⟩ = some (.slice p1 tables.length c1) ∧ w'.cell? ⟨w.heap.size, 13, none⟩ = some (.slice p3 pCo.length c3) ∧ w'.cell? ⟨g, off + k * 5, none⟩ = some (.slice pr regs.length cr) ∧ w'.cell? ⟨g, off + k * 5 + 1, none⟩ = some (.int .i64 space) ∧ w'.cell? ⟨g, off + k * 5 + 2, none⟩ = some (.int .u64 (table : Nat)) ∧ w'.cell? ⟨g, off + k * 5 + 3, none⟩ = some (.slice pc code.length cc) ∧ w'.cell? ⟨g, off + k * 5 + 4, none⟩ = some (.slice ph hand.length ch))) (by kernel_rfl) (by (try dsimp only); exact ⟨m2, m10, m13, a0, a1, a2, a3, a4⟩) (fun hHeld => ?_)
        refine tk1 0 139 rfl ?_
        simp only [Act.put, tka, tk0, tkS]
        refine tk1 1 140 rfl ?_
        simp only [Act.put, tka, tk0, tkS]
        refine tk1 2 141 rfl ?_
        simp only [Act.put, tka, tk0, tkS]
        refine tk1 3 142 rfl ?_
        simp only [Act.put, tka, tk0, tkS]
        refine tk1 4 143 rfl ?_
        simp only [Act.put, tka, tk0, tkS]
        refine tk1 5 144 rfl ?_
        simp only [Act.put, tka, tk0, tkS]
        refine tk1 6 145 rfl ?_
        simp only [Act.put, tka, tk0, tkS]
        refine tk1 7 146 rfl ?_
        simp only [Act.put, tka, tk0, tkS]
        refine tk1 8 147 rfl ?_
        simp only [Act.put, tka, tk0, tkS]
        refine tk1 9 148 rfl ?_
        simp only [Act.put, tka, tk0, tkS]
        refine tk1 10 149 rfl ?_
        simp only [Act.put, tka, tk0, tkS]
        refine tk1 12 151 rfl ?_
        simp only [Act.put, tka, tk0, tkS]
        refine wpAnyH_ready (rs := [11]) (by kernel_rfl) (by simp) ?_
        refine AllReadyH.cons (o := ⟨some 150, _, _, _, _, _⟩) rfl (fun K hK => ?_) AllReadyH.nil
        go_simp
        go_at_call 45; refine (HAO.out _ (bt_ HBRK.out ((Below.refl wr.heap.size wr).drew)) k (by omega)).mono ?_; rintro e wA ⟨rfl, jA, rfl⟩; have bwA := bd_ ((Below.refl wr.heap.size wr).drew) jA
        refine hK.out _ _ (by (try dsimp only); exact ⟨cell_below m2 bwA, cell_below m10 bwA, cell_below m13 bwA, cell_below a0 bwA, cell_below a1 bwA, cell_below a2 bwA, cell_below a3 bwA, cell_below a4 bwA⟩) ?_
        clear hK K hHeld
        intro hHeld
        try simp only [Act.put, tka, tk0, tkS]
        refine wpAnyH_ready (rs := [13]) (by kernel_rfl) (by simp) ?_
        refine AllReadyH.cons (o := ⟨some 152, _, _, _, _, _⟩) rfl (fun K hK => ?_) AllReadyH.nil
        go_simp
        go_at_call 47; refine (HCO.out _ (by first | exact bwA | exact bd_ (Below.refl _ _) _)).mono ?_; rintro e wB ⟨rfl, bwB0⟩; have bwB := bt_ (show Below wr.heap.size wr _ from (by first | exact bwA | exact bd_ (Below.refl _ _) _)) bwB0
        refine hK.out _ _ (by (try dsimp only); exact ⟨cell_below m2 bwB, cell_below m10 bwB, cell_below m13 bwB, cell_below a0 bwB, cell_below a1 bwB, cell_below a2 bwB, cell_below a3 bwB, cell_below a4 bwB⟩) ?_
        clear hK K hHeld
        intro hHeld
        try simp only [Act.put, tka, tk0, tkS]
        refine tk1 14 138 rfl ?_
        simp only [Act.put, tka, tk0, tkS]
        refine tk1 15 153 rfl ?_
        simp only [Act.put, tka, tk0, tkS]
        refine tk1 16 154 rfl ?_
        simp only [Act.put, tka, tk0, tkS]
        refine tk1 17 13 rfl ?_
        simp only [Act.put, tka, tk0, tkS]
        refine tk1 18 14 rfl ?_
        simp only [Act.put, tka, tk0, tkS]
        refine wpAnyH_done (by kernel_rfl) ?_ _
        clear hHeld m2 m10 m13 m14 ml a0 a1 a2 a3 a4
        by_cases hda : da = 0
        ·have HX := h_ (HGood.out hda)
         have hdb : (da != 0) = false := by rw [hda]; rfl
         clear HGood HBad hda
         go_wp2_with fail
         go_roundw
         case rel => exact ⟨k + 1, by omega, by go_num, HX, bt_ HBK.out bwB⟩
         case measure => simp [intOf] <;> omega
        ·have HX := h_ (HBad.out hda)
         have HF := h_ ((HTC.out.core HNN.out (by show ¬ (e0q ⟨nm, cells, cores, fa, cond, tables, pT, pC, pCo, pI, pCond⟩ 0 cores).1 = 0; rw [HX.out]; exact hda)).trans HX.out)
         have hdb : (da != 0) = true := bne_iff_ne.2 hda
         clear HGood HBad hda
         go_wp2_with fail
         go_ret2
         exact ⟨HT.out _ HF.out, bt_ HBRK.out bwB⟩
       ·have hkin : (pI.length : Int) ≤ k := by omega
        have HQ0 := h_ (show pI.getD k [] = [] by simp [List.getD, List.getElem?_eq_none (show pI.length ≤ k by omega)])
        clear hki
        have HCO := h_ (fun (w8 : World) (hb : Below wr.heap.size wr w8) => t0l w8 (c := ⟨regs, space, table, code, hand⟩) (cr := cr) (pr := pr) (cT := c1) (pP := none) (cP := 0) (pl := []) (cc := cc) (ch := ch) (at_ := a0i pCo k) (HTK.out.below hb) ⟨rfl, fun h => absurd h (by simp)⟩ (Rc.below hb) (Rh.below hb) HS.out.tables (by simp) hsz.1 hsz.2.1 hklt)
        dsimp only [List.length] at HCO
        rw [← HQ0.out] at HCO
        clear Rc Rh hsz hklt
        go_wp2_with fail
        generalize d0p tables ⟨regs, space, table, code, hand⟩ (a0i pCo k) (pI.getD k []) = A at *
        obtain ⟨da, db⟩ := A
        dsimp only at HCO HGood HBad
        refine wp_region_held_drew (S := (fun w' => w'.cell? ⟨w.heap.size, 2, none⟩ = some (.slice (some ⟨g, off, none⟩) cores.length c2) ∧ w'.cell? ⟨w.heap.size, 10, none⟩ = some (.slice p1 tables.length c1) ∧ w'.cell? ⟨w.heap.size, 13, none⟩ = some (.slice p3 pCo.length c3) ∧ w'.cell? ⟨g, off + k * 5, none⟩ = some (.slice pr regs.length cr) ∧ w'.cell? ⟨g, off + k * 5 + 1, none⟩ = some (.int .i64 space) ∧ w'.cell? ⟨g, off + k * 5 + 2, none⟩ = some (.int .u64 (table : Nat)) ∧ w'.cell? ⟨g, off + k * 5 + 3, none⟩ = some (.slice pc code.length cc) ∧ w'.cell? ⟨g, off + k * 5 + 4, none⟩ = some (.slice ph hand.length ch))) (by kernel_rfl) (by (try dsimp only); exact ⟨m2, m10, m13, a0, a1, a2, a3, a4⟩) (fun hHeld => ?_)
        refine tk1 0 139 rfl ?_
        simp only [Act.put, tka, tk0, tkS]
        refine tk1 1 140 rfl ?_
        simp only [Act.put, tka, tk0, tkS]
        refine tk1 2 141 rfl ?_
        simp only [Act.put, tka, tk0, tkS]
        refine tk1 3 142 rfl ?_
        simp only [Act.put, tka, tk0, tkS]
        refine tk1 4 143 rfl ?_
        simp only [Act.put, tka, tk0, tkS]
        refine tk1 5 144 rfl ?_
        simp only [Act.put, tka, tk0, tkS]
        refine tk1 6 145 rfl ?_
        simp only [Act.put, tka, tk0, tkS]
        refine tk1 7 146 rfl ?_
        simp only [Act.put, tka, tk0, tkS]
        refine tk1 8 147 rfl ?_
        simp only [Act.put, tka, tk0, tkS]
        refine tk1 9 148 rfl ?_
        simp only [Act.put, tka, tk0, tkS]
        refine tk1 10 149 rfl ?_
        simp only [Act.put, tka, tk0, tkS]
        refine tk1 12 151 rfl ?_
        simp only [Act.put, tka, tk0, tkS]
        refine wpAnyH_ready (rs := [11]) (by kernel_rfl) (by simp) ?_
        refine AllReadyH.cons (o := ⟨some 150, _, _, _, _, _⟩) rfl (fun K hK => ?_) AllReadyH.nil
        go_simp
        go_at_call 45; refine (HAO.out _ (bt_ HBRK.out ((Below.refl wr.heap.size wr).drew)) k (by omega)).mono ?_; rintro e wA ⟨rfl, jA, rfl⟩; have bwA := bd_ ((Below.refl wr.heap.size wr).drew) jA
        refine hK.out _ _ (by (try dsimp only); exact ⟨cell_below m2 bwA, cell_below m10 bwA, cell_below m13 bwA, cell_below a0 bwA, cell_below a1 bwA, cell_below a2 bwA, cell_below a3 bwA, cell_below a4 bwA⟩) ?_
        clear hK K hHeld
        intro hHeld
        try simp only [Act.put, tka, tk0, tkS]
        refine wpAnyH_ready (rs := [13]) (by kernel_rfl) (by simp) ?_
        refine AllReadyH.cons (o := ⟨some 152, _, _, _, _, _⟩) rfl (fun K hK => ?_) AllReadyH.nil
        go_simp
        go_at_call 47; refine (HCO.out _ (by first | exact bwA | exact bd_ (Below.refl _ _) _)).mono ?_; rintro e wB ⟨rfl, bwB0⟩; have bwB := bt_ (show Below wr.heap.size wr _ from (by first | exact bwA | exact bd_ (Below.refl _ _) _)) bwB0
        refine hK.out _ _ (by (try dsimp only); exact ⟨cell_below m2 bwB, cell_below m10 bwB, cell_below m13 bwB, cell_below a0 bwB, cell_below a1 bwB, cell_below a2 bwB, cell_below a3 bwB, cell_below a4 bwB⟩) ?_
        clear hK K hHeld
        intro hHeld
        try simp only [Act.put, tka, tk0, tkS]
        refine tk1 14 138 rfl ?_
        simp only [Act.put, tka, tk0, tkS]
        refine tk1 15 153 rfl ?_
        simp only [Act.put, tka, tk0, tkS]
        refine tk1 16 154 rfl ?_
        simp only [Act.put, tka, tk0, tkS]
        refine tk1 17 13 rfl ?_
        simp only [Act.put, tka, tk0, tkS]
        refine tk1 18 14 rfl ?_
        simp only [Act.put, tka, tk0, tkS]
        refine wpAnyH_done (by kernel_rfl) ?_ _
        clear hHeld m2 m10 m13 m14 ml a0 a1 a2 a3 a4
        by_cases hda : da = 0
        ·have HX := h_ (HGood.out hda)
         have hdb : (da != 0) = false := by rw [hda]; rfl
         clear HGood HBad hda
         go_wp2_with fail
         go_roundw
         case rel => exact ⟨k + 1, by omega, by go_num, HX, bt_ HBK.out bwB⟩
         case measure => simp [intOf] <;> omega
        ·have HX := h_ (HBad.out hda)
         have HF := h_ ((HTC.out.core HNN.out (by show ¬ (e0q ⟨nm, cells, cores, fa, cond, tables, pT, pC, pCo, pI, pCond⟩ 0 cores).1 = 0; rw [HX.out]; exact hda)).trans HX.out)
         have hdb : (da != 0) = true := bne_iff_ne.2 hda
         clear HGood HBad hda
         go_wp2_with fail
         go_ret2
         exact ⟨HT.out _ HF.out, bt_ HBRK.out bwB⟩
      ·obtain rfl : k = cores.length := by omega
       have HCE := h_ (show (e0q ⟨nm, cells, cores, fa, cond, tables, pT, pC, pCo, pI, pCond⟩ 0 cores).1 = 0 by rw [← HE.out, p0u (x := ⟨nm, cells, cores, fa, cond, tables, pT, pC, pCo, pI, pCond⟩) rfl])
       have m0 := HMK.out.cell 0
       have m1 := HMK.out.cell 1
       have m2 := HMK.out.cell 2
       have m3 := HMK.out.cell 3
       have m4 := HMK.out.cell 4
       have m5 := HMK.out.cell 5
       have m6 := HMK.out.cell 6
       have m7 := HMK.out.cell 7
       have m8 := HMK.out.cell 8
       have m9 := HMK.out.cell 9
       have m13 := HMK.out.cell 13
       have m15 := HMK.out.cell 15
       have ml := HMK.out.lt
       simp only [gz_, gs_] at m0 m1 m2 m3 m4 m5 m6 m7 m8 m9 m13 m15
       have HEV := h_ (show Calls Tryz.prog 18 #[.agg #[.string nm, .slice p0 cells.length c0, .slice p2 cores.length c2, .bool fa, k0, k1, k2, k3, k4, k5]] wr (fun e w' => e = .returned (.int .i64 (b0m cores.length cores : Nat)) ∧ Below wr.heap.size wr w') from o0x wr HGK.out)
       have HCX := h_ HG9.out.cond
       have HCS := h_ (show a0k cond ≤ 1000000000 from HS.out.cond)
       go_wp2_with fail
       refine (HEV.out).mono ?_
       rintro e wE ⟨rfl, hbE⟩
       have HBE := h_ (bt_ HBRK.out hbE)
       have HME := h_ (HMK.out.below hbE)
       have HBKE := h_ (bt_ HBK.out hbE)
       clear hbE HEV m0 m1 m2 m3 m4 m5 m6 m7 m8 m9 m13 m15 ml
       have m4 := HME.out.cell 4
       have m5 := HME.out.cell 5
       have m6 := HME.out.cell 6
       have m7 := HME.out.cell 7
       have m8 := HME.out.cell 8
       have m9 := HME.out.cell 9
       have m13 := HME.out.cell 13
       have m15 := HME.out.cell 15
       have ml := HME.out.lt
       simp only [gz_, gs_] at m4 m5 m6 m7 m8 m9 m13 m15
       by_cases hev : 64 < b0m cores.length cores
       ·have hev' : (64 : Int) < ((b0m cores.length cores : Nat) : Int) := by omega
        have HF := h_ (HTC.out.ev HNN.out HCE.out hev)
        generalize b0m cores.length cores = EE at *
        clear hev
        go_wp2_with fail
        refine (HAO.out _ HBE.out 0 (by omega)).mono ?_
        rintro e wz ⟨rfl, jz, rfl⟩
        go_wp2_with fail
        go_ret2
        exact ⟨HT.out _ HF.out, bd_ HBE.out _⟩
       have hev' : ((b0m cores.length cores : Nat) : Int) ≤ 64 := by omega
       obtain ⟨SS, hCT⟩ := HCX.out
       have HRT := h_ (show Calls Tryz.prog 48 #[.agg #[k0, k1, k2, k3, k4, k5], .int .i64 (cores.length : Nat)] wE (fun e w' => e = .returned (.int .i64 (g0w (cores.length : Nat) cond)) ∧ Below wE.heap.size wE w') from b1u (cores.length : Nat) cond wE SS [k0, k1, k2, k3, k4, k5] HCS.out (hCT.below HBKE.out))
       clear hCT
       have HNEV := h_ hev
       have HFC := h_ (fun h => HTC.out.cond HNN.out HCE.out hev h)
       have HFO := h_ (fun h => HTC.out.ok HNN.out HCE.out hev h)
       clear hev
       generalize b0m cores.length cores = EE at *
       dsimp only at HFC HFO
       generalize g0w (cores.length : Nat) cond = RR at *
       go_wp2_with fail
       refine (HRT.out).mono ?_
       rintro e wF ⟨rfl, hbF⟩
       have HBF := h_ (bt_ HBE.out hbF)
       have HMF := h_ (HME.out.below hbF)
       clear hbF HRT m4 m5 m6 m7 m8 m9 m13 m15 ml
       have m15 := HMF.out.cell 15
       have ml := HMF.out.lt
       simp only [gz_, gs_] at m15
       by_cases hr : RR = 0
       ·have HF := h_ (HFO.out hr)
        have hrb : (RR != 0) = false := by rw [hr]; rfl
        clear hr HFC HFO
        go_wp2_with fail
        go_ret2
        exact ⟨HT.out _ HF.out, HBF.out⟩
       ·have HF := h_ (HFC.out hr)
        have hrb : (RR != 0) = true := bne_iff_ne.2 hr
        clear hr HFC HFO
        go_wp2_with fail
        go_quiet (fail)
        go_wp2_with fail
        go_ret2
        exact ⟨HT.out _ HF.out, bd_ HBF.out _⟩
end
end Go.Proofs.YtmnojnopejhebaaGreat
