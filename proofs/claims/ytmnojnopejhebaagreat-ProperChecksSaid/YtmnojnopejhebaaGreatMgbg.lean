/- (*proper.writer).core. -/
import Derived.Test.YtmnojnopejhebaaGreatMgai
import Derived.Test.YtmnojnopejhebaaGreatMgaj
import Derived.Test.YtmnojnopejhebaaGreatMgak
import Derived.Test.YtmnojnopejhebaaGreatMgbd
import Derived.Test.YtmnojnopejhebaaGreatMgbe
import Derived.Test.YtmnojnopejhebaaGreatMgbf
namespace Go.Proofs.YtmnojnopejhebaaGreat
set_option linter.unusedVariables false
set_option linter.unusedSimpArgs false
set_option maxRecDepth 100000
set_option maxHeartbeats 25600000
section
open Go.RowKit
theorem c1b (w0 w : World) (b i : Nat) (l : List UInt8) {pr pc ph : Option Addr} {cr cc ch : Nat} {regs : List Nat} {space table : Nat} {code hand : List Ins}
  (h0 : Below w0.heap.size w0 w) (h : WB w0.heap.size b (Lib.byteCells l) w)
  (hr : Rds w0 1 pr regs.length (regs.map u64V)) (hc : Rds w0 6 pc code.length (insL code)) (hh : Rds w0 6 ph hand.length (insL hand))
  (hi : i < 65536) (hs : regs.length ≤ 20000 ∧ code.length ≤ 20000 ∧ hand.length ≤ 20000) (hrl : ∀ v ∈ regs, v < W64) (hsp : space < 65536) (htb : table < W64) (hci : k0s code) (hhi : k0s hand)
  (hln : l.length + (L10 (d0u i ⟨regs, space, table, code, hand⟩)).length + 1 ≤ 100000000) :
  Calls Tryz.prog 29 #[.pointer (some ⟨b, 0, none⟩), .int .i64 (i : Nat), .agg #[.slice pr regs.length cr, .int .i64 (space : Nat), .int .u64 (table : Nat), .slice pc code.length cc, .slice ph hand.length ch]] w fun e w' => e = .returned (.tuple #[]) ∧ WB w0.heap.size b (Lib.byteCells (l ++ L10 (d0u i ⟨regs, space, table, code, hand⟩))) w' ∧ WK w0.heap.size b w w' := by
 have HBW := h.lt
 have HNE := h_ (show w.heap.size ≠ b by omega)
 have HBA : Below w.heap.size w (w.alloc (.cells #[.slice pr regs.length cr, .int .i64 (space : Nat), .int .u64 (table : Nat), .slice pc code.length cc, .slice ph hand.length ch] 82)) := bl_ (Below.refl _ _) _
 have HK0 := h_ (show WK w0.heap.size b w (w.alloc (.cells #[.slice pr regs.length cr, .int .i64 (space : Nat), .int .u64 (table : Nat), .slice pc code.length cc, .slice ph hand.length ch] 82)) from WK.ofBelow HBA h0.size)
 have HK1 := h_ (WK.refl w0.heap.size b (w.alloc (.cells #[.slice pr regs.length cr, .int .i64 (space : Nat), .int .u64 (table : Nat), .slice pc code.length cc, .slice ph hand.length ch] 82)))
 have HW1 := h_ (h.keep HBA)
 have HB1 := h_ (Nat.le_trans h0.size HBA.size)
 have HM1 := h_ (show Blk (w.alloc (.cells #[.slice pr regs.length cr, .int .i64 (space : Nat), .int .u64 (table : Nat), .slice pc code.length cc, .slice ph hand.length ch] 82)) 82 w.heap.size [.slice pr regs.length cr, .int .i64 (space : Nat), .int .u64 (table : Nat), .slice pc code.length cc, .slice ph hand.length ch] from Blk.new w _ _)
 have HRr := h_ (fun (w2 : World) (k : WK w0.heap.size b (w.alloc (.cells #[.slice pr regs.length cr, .int .i64 (space : Nat), .int .u64 (table : Nat), .slice pc code.length cc, .slice ph hand.length ch] 82)) w2) => hr.below (h0.trans (HK0.out.trans k).below))
 have HRc := h_ (fun (w2 : World) (k : WK w0.heap.size b (w.alloc (.cells #[.slice pr regs.length cr, .int .i64 (space : Nat), .int .u64 (table : Nat), .slice pc code.length cc, .slice ph hand.length ch] 82)) w2) => hc.below (h0.trans (HK0.out.trans k).below))
 have HRh := h_ (fun (w2 : World) (k : WK w0.heap.size b (w.alloc (.cells #[.slice pr regs.length cr, .int .i64 (space : Nat), .int .u64 (table : Nat), .slice pc code.length cc, .slice ph hand.length ch] 82)) w2) => hh.below (h0.trans (HK0.out.trans k).below))
 have HSZ := h_ hs
 have HRL := h_ hrl
 have HCI := h_ (And.intro hci hhi)
 have HHEX := h_ (fun w2 => p0j table w2 htb)
 have HHX := h_ (fun w2 (v : Nat) (hv : v < W64) => p0j v w2 hv)
 have HI := h_ (fun w2 => l0l (i : Nat) w2 (by omega))
 have HSP := h_ (fun w2 => l0l (space : Nat) w2 (by omega))
 have hB0 := h0.size
 generalize w0.heap.size = B at *
 obtain ⟨L0, hL0⟩ : ∃ L0, L0 = l ++ (flat ((1, h0w) :: n0j i space table) ++ [10]) := ⟨_, rfl⟩
 have HEQ0 := h_ (fun (e : hand = []) => show l ++ L10 (d0u i ⟨regs, space, table, code, hand⟩) = (L0 ++ L10 (a0t regs 0)) ++ L10 (code.map insT) from by
  rw [hL0]; unfold d0u m0c; rw [if_pos e, o0k, e0d, e0d, j0x]; simp)
 have HEQ1 := h_ (fun (e : ¬ hand = []) => show l ++ L10 (d0u i ⟨regs, space, table, code, hand⟩) = (((L0 ++ L10 (a0t regs 0)) ++ L10 (code.map insT)) ++ (c0u ++ [10])) ++ L10 (hand.map insT) from by
  rw [hL0]; unfold d0u m0c; rw [if_neg e, o0k, e0d, e0d, o0k]; simp)
 have HLL := h_ (show L0.length + (L10 (a0t regs 0)).length + (L10 (code.map insT)).length + (L10 (hand.map insT)).length + 100 ≤ 900000000 from by
  by_cases e : hand = []
  ·have q := congrArg List.length (HEQ0.out e)
   rw [e]
   simp only [List.length_append, List.map_nil, j0x, List.length_nil] at q hln ⊢
   omega
  ·have q := congrArg List.length (HEQ1.out e)
   simp only [List.length_append] at q hln ⊢
   omega)
 have HLN := h_ (show l.length + (flat ((1, h0w) :: n0j i space table)).length + 1 ≤ 1000000000 from by
  have q := HLL.out
  rw [hL0] at q
  simp only [List.length_append, List.length_singleton] at q
  omega)
 clear h h0 hr hc hh hi hs hrl htb hci hhi hln hB0 HBA
 go_enter Tryz.func29, Tryz.ntmps29
 have hb0 := HM1.out.lt
 have m1 := HM1.out.cell 1
 simp only [gz_, gs_] at m1
 by_cases hsp0 : space = 0
 focus (
  subst hsp0
  have HE0 := h_ (show flat ((1, h0w) :: n0j i 0 table) = h0w ++ ([32] ++ (intL (i : Nat) ++ ([32] ++ (a0s ++ ([32] ++ hexL table))))) from by simp [flat, n0j])
  have HL0 := h_ (show l ++ ((h0w ++ ([32] ++ (intL (i : Nat) ++ ([32] ++ (a0s ++ ([32] ++ hexL table)))))) ++ [10]) = L0 from by rw [hL0, HE0.out])
  clear hL0
  go_wp2_with fail
  clear m1 hb0
  generalize w.alloc (.cells #[.slice pr regs.length cr, .int .i64 (0 : Nat), .int .u64 (table : Nat), .slice pc code.length cc, .slice ph hand.length ch] 82) = w1 at *
  refine wp_region_held_drew (S := (fun w' => w'.cell? ⟨w.heap.size, 1, none⟩ = some (.int .i64 (0 : Nat)) ∧ w'.cell? ⟨w.heap.size, 2, none⟩ = some (.int .u64 (table : Nat)))) (by kernel_rfl) (by (try dsimp only); exact ⟨(HM1.out.wk HK1.out HNE.out (by decide)).cell 1, (HM1.out.wk HK1.out HNE.out (by decide)).cell 2⟩) (fun hHeld => ?_)
  refine tk1 0 15 rfl ?_
  simp only [Act.put, tka, tk0, tkS]
  refine tk1 1 16 rfl ?_
  simp only [Act.put, tka, tk0, tkS]
  refine tk1 3 18 rfl ?_
  simp only [Act.put, tka, tk0, tkS]
  refine tk1 4 19 rfl ?_
  simp only [Act.put, tka, tk0, tkS]
  refine wpAnyH_ready (rs := [2]) (by kernel_rfl) (by simp) ?_
  refine AllReadyH.cons (o := ⟨some 17, _, _, _, _, _⟩) rfl (fun K hK => ?_) AllReadyH.nil
  go_simp
  go_at_call 60
  refine (HI.out w1.drew).mono ?_
  rintro e w115 ⟨rfl, hb⟩
  have hb : Below w1.drew.heap.size w1.drew w115 := by obtain ⟨m, rfl⟩ := hb; exact bd_ (Below.refl _ _) m
  have HW15 := h_ (WB.keep (w := w1.drew) (show WB B b _ w1.drew from HW1.out) hb)
  have HK15 := h_ ((HK1.out.trans (WK.drew B b w1)).trans (WK.ofBelow (w := w1.drew) hb (Nat.le_trans HB1.out HK1.out.below.size)))
  clear hb
  refine hK.out _ _ (by (try dsimp only); exact ⟨(HM1.out.wk HK15.out HNE.out (by decide)).cell 1, (HM1.out.wk HK15.out HNE.out (by decide)).cell 2⟩) ?_
  clear hK K hHeld
  intro hHeld
  try simp only [Act.put, tka, tk0, tkS]
  refine wpAnyH_ready (rs := [5]) (by kernel_rfl) (by simp) ?_
  refine AllReadyH.cons (o := ⟨some 20, _, _, _, _, _⟩) rfl (fun K hK => ?_) AllReadyH.nil
  go_simp
  go_at_call 28
  refine (HHEX.out w115).mono ?_
  rintro e w116 ⟨rfl, hb⟩
  have HW16 := h_ (HW15.out.keep hb)
  have HK16 := h_ (HK15.out.trans (WK.ofBelow hb (Nat.le_trans HB1.out HK15.out.below.size)))
  clear hb
  refine hK.out _ _ (by (try dsimp only); exact ⟨(HM1.out.wk HK16.out HNE.out (by decide)).cell 1, (HM1.out.wk HK16.out HNE.out (by decide)).cell 2⟩) ?_
  clear hK K hHeld
  intro hHeld
  try simp only [Act.put, tka, tk0, tkS]
  refine wpAnyH_ready (rs := [6]) (by kernel_rfl) (by simp) ?_
  refine AllReadyH.cons (o := ⟨some 21, _, _, _, _, _⟩) rfl (fun K hK => ?_) AllReadyH.nil
  go_simp
  have hb : Below w116.heap.size w116 (w116.alloc (.cells #[.string ⟨#[99, 111, 114, 101]⟩, .string (ba (intL (i : Nat))), .string ⟨#[116, 97, 98, 108, 101]⟩, .string (ba (hexL table))] 9)) := bl_ (Below.refl _ _) _
  have HX17 := h_ (show Blk (w116.alloc (.cells #[.string ⟨#[99, 111, 114, 101]⟩, .string (ba (intL (i : Nat))), .string ⟨#[116, 97, 98, 108, 101]⟩, .string (ba (hexL table))] 9)) 9 w116.heap.size [.string ⟨#[99, 111, 114, 101]⟩, .string (ba (intL (i : Nat))), .string ⟨#[116, 97, 98, 108, 101]⟩, .string (ba (hexL table))] from Blk.new w116 _ _)
  have HW17 := h_ (HW16.out.keep hb)
  have HK17 := h_ (HK16.out.trans (WK.ofBelow hb (Nat.le_trans HB1.out HK16.out.below.size)))
  clear hb
  refine hK.out _ _ (by (try dsimp only); exact ⟨(HM1.out.wk HK17.out HNE.out (by decide)).cell 1, (HM1.out.wk HK17.out HNE.out (by decide)).cell 2⟩) ?_
  clear hK K hHeld
  intro hHeld
  try simp only [Act.put, tka, tk0, tkS]
  refine wpAnyH_ready (rs := [7]) (by kernel_rfl) (by simp) ?_
  refine AllReadyH.cons (o := ⟨some 22, _, _, _, _, _⟩) rfl (fun K hK => ?_) AllReadyH.nil
  go_simp
  have HL18 := h_ (show Calls Tryz.prog 27 #[.pointer (some ⟨b, 0, none⟩), .slice (some ⟨w116.heap.size, 0, none⟩) 4 4] (w116.alloc (.cells #[.string ⟨#[99, 111, 114, 101]⟩, .string (ba (intL (i : Nat))), .string ⟨#[116, 97, 98, 108, 101]⟩, .string (ba (hexL table))] 9)) _ from e0u B b _ _ _ [⟨#[99, 111, 114, 101]⟩, ba (intL (i : Nat)), ⟨#[116, 97, 98, 108, 101]⟩, ba (hexL table)] (w116.alloc (.cells #[.string ⟨#[99, 111, 114, 101]⟩, .string (ba (intL (i : Nat))), .string ⟨#[116, 97, 98, 108, 101]⟩, .string (ba (hexL table))] 9)) HW17.out HX17.out (by simp) (h0w ++ ([32] ++ (intL (i : Nat) ++ ([32] ++ (a0s ++ ([32] ++ hexL table)))))) (by exact n1m h0w (intL (i : Nat)) a0s (hexL table)) (by have := HLN.out; rw [HE0.out] at this; exact this) (Nat.le_trans HB1.out HK17.out.below.size))
  go_at_call 27
  refine HL18.out.mono ?_
  rintro e w118 ⟨rfl, hw, hk⟩
  have HW18 := h_ (show WB B b (Lib.byteCells (L0)) w118 from by have q := hw; rw [HL0.out] at q; exact q)
  have HK18 := h_ (HK17.out.trans hk)
  clear hw hk HL18
  refine hK.out _ _ (by (try dsimp only); exact ⟨(HM1.out.wk HK18.out HNE.out (by decide)).cell 1, (HM1.out.wk HK18.out HNE.out (by decide)).cell 2⟩) ?_
  clear hK K hHeld
  intro hHeld
  try simp only [Act.put, tka, tk0, tkS]
  refine wpAnyH_done (by kernel_rfl) ?_ _
  clear hHeld
  have HWx := h_ HW18.out
  have HKx := h_ HK18.out
  generalize w118 = wx at *)
 rotate_left
 focus (
  have hspb : (((space : Nat) : Int) == 0) = false := by rw [beq_eq_false_iff_ne]; omega
  have HE0 := h_ (show flat ((1, h0w) :: n0j i space table) = h0w ++ ([32] ++ (intL (i : Nat) ++ ([32] ++ (m0t ++ ([32] ++ (intL (space : Nat) ++ ([32] ++ (a0s ++ ([32] ++ hexL table))))))))) from by simp [flat, n0j, hsp0])
  have HL0 := h_ (show l ++ ((h0w ++ ([32] ++ (intL (i : Nat) ++ ([32] ++ (m0t ++ ([32] ++ (intL (space : Nat) ++ ([32] ++ (a0s ++ ([32] ++ hexL table)))))))))) ++ [10]) = L0 from by rw [hL0, HE0.out])
  clear hL0
  clear hsp0
  go_wp2_with fail
  clear m1 hb0
  generalize w.alloc (.cells #[.slice pr regs.length cr, .int .i64 (space : Nat), .int .u64 (table : Nat), .slice pc code.length cc, .slice ph hand.length ch] 82) = w1 at *
  refine wp_region_held_drew (S := (fun w' => w'.cell? ⟨w.heap.size, 1, none⟩ = some (.int .i64 (space : Nat)) ∧ w'.cell? ⟨w.heap.size, 2, none⟩ = some (.int .u64 (table : Nat)))) (by kernel_rfl) (by (try dsimp only); exact ⟨(HM1.out.wk HK1.out HNE.out (by decide)).cell 1, (HM1.out.wk HK1.out HNE.out (by decide)).cell 2⟩) (fun hHeld => ?_)
  refine tk1 0 23 rfl ?_
  simp only [Act.put, tka, tk0, tkS]
  refine tk1 1 24 rfl ?_
  simp only [Act.put, tka, tk0, tkS]
  refine tk1 3 26 rfl ?_
  simp only [Act.put, tka, tk0, tkS]
  refine tk1 4 27 rfl ?_
  simp only [Act.put, tka, tk0, tkS]
  refine tk1 6 29 rfl ?_
  simp only [Act.put, tka, tk0, tkS]
  refine tk1 7 30 rfl ?_
  simp only [Act.put, tka, tk0, tkS]
  refine wpAnyH_ready (rs := [2]) (by kernel_rfl) (by simp) ?_
  refine AllReadyH.cons (o := ⟨some 25, _, _, _, _, _⟩) rfl (fun K hK => ?_) AllReadyH.nil
  go_simp
  go_at_call 60
  refine (HI.out w1.drew).mono ?_
  rintro e w119 ⟨rfl, hb⟩
  have hb : Below w1.drew.heap.size w1.drew w119 := by obtain ⟨m, rfl⟩ := hb; exact bd_ (Below.refl _ _) m
  have HW19 := h_ (WB.keep (w := w1.drew) (show WB B b _ w1.drew from HW1.out) hb)
  have HK19 := h_ ((HK1.out.trans (WK.drew B b w1)).trans (WK.ofBelow (w := w1.drew) hb (Nat.le_trans HB1.out HK1.out.below.size)))
  clear hb
  refine hK.out _ _ (by (try dsimp only); exact ⟨(HM1.out.wk HK19.out HNE.out (by decide)).cell 1, (HM1.out.wk HK19.out HNE.out (by decide)).cell 2⟩) ?_
  clear hK K hHeld
  intro hHeld
  try simp only [Act.put, tka, tk0, tkS]
  refine wpAnyH_ready (rs := [5]) (by kernel_rfl) (by simp) ?_
  refine AllReadyH.cons (o := ⟨some 28, _, _, _, _, _⟩) rfl (fun K hK => ?_) AllReadyH.nil
  go_simp
  go_at_call 60
  refine (HSP.out w119).mono ?_
  rintro e w120 ⟨rfl, hb⟩
  have hb : Below w119.heap.size w119 w120 := by obtain ⟨m, rfl⟩ := hb; exact bd_ (Below.refl _ _) m
  have HW20 := h_ (HW19.out.keep hb)
  have HK20 := h_ (HK19.out.trans (WK.ofBelow hb (Nat.le_trans HB1.out HK19.out.below.size)))
  clear hb
  refine hK.out _ _ (by (try dsimp only); exact ⟨(HM1.out.wk HK20.out HNE.out (by decide)).cell 1, (HM1.out.wk HK20.out HNE.out (by decide)).cell 2⟩) ?_
  clear hK K hHeld
  intro hHeld
  try simp only [Act.put, tka, tk0, tkS]
  refine wpAnyH_ready (rs := [8]) (by kernel_rfl) (by simp) ?_
  refine AllReadyH.cons (o := ⟨some 31, _, _, _, _, _⟩) rfl (fun K hK => ?_) AllReadyH.nil
  go_simp
  go_at_call 28
  refine (HHEX.out w120).mono ?_
  rintro e w121 ⟨rfl, hb⟩
  have HW21 := h_ (HW20.out.keep hb)
  have HK21 := h_ (HK20.out.trans (WK.ofBelow hb (Nat.le_trans HB1.out HK20.out.below.size)))
  clear hb
  refine hK.out _ _ (by (try dsimp only); exact ⟨(HM1.out.wk HK21.out HNE.out (by decide)).cell 1, (HM1.out.wk HK21.out HNE.out (by decide)).cell 2⟩) ?_
  clear hK K hHeld
  intro hHeld
  try simp only [Act.put, tka, tk0, tkS]
  refine wpAnyH_ready (rs := [9]) (by kernel_rfl) (by simp) ?_
  refine AllReadyH.cons (o := ⟨some 32, _, _, _, _, _⟩) rfl (fun K hK => ?_) AllReadyH.nil
  go_simp
  have hb : Below w121.heap.size w121 (w121.alloc (.cells #[.string ⟨#[99, 111, 114, 101]⟩, .string (ba (intL (i : Nat))), .string ⟨#[115, 112, 97, 99, 101]⟩, .string (ba (intL (space : Nat))), .string ⟨#[116, 97, 98, 108, 101]⟩, .string (ba (hexL table))] 9)) := bl_ (Below.refl _ _) _
  have HX22 := h_ (show Blk (w121.alloc (.cells #[.string ⟨#[99, 111, 114, 101]⟩, .string (ba (intL (i : Nat))), .string ⟨#[115, 112, 97, 99, 101]⟩, .string (ba (intL (space : Nat))), .string ⟨#[116, 97, 98, 108, 101]⟩, .string (ba (hexL table))] 9)) 9 w121.heap.size [.string ⟨#[99, 111, 114, 101]⟩, .string (ba (intL (i : Nat))), .string ⟨#[115, 112, 97, 99, 101]⟩, .string (ba (intL (space : Nat))), .string ⟨#[116, 97, 98, 108, 101]⟩, .string (ba (hexL table))] from Blk.new w121 _ _)
  have HW22 := h_ (HW21.out.keep hb)
  have HK22 := h_ (HK21.out.trans (WK.ofBelow hb (Nat.le_trans HB1.out HK21.out.below.size)))
  clear hb
  refine hK.out _ _ (by (try dsimp only); exact ⟨(HM1.out.wk HK22.out HNE.out (by decide)).cell 1, (HM1.out.wk HK22.out HNE.out (by decide)).cell 2⟩) ?_
  clear hK K hHeld
  intro hHeld
  try simp only [Act.put, tka, tk0, tkS]
  refine wpAnyH_ready (rs := [10]) (by kernel_rfl) (by simp) ?_
  refine AllReadyH.cons (o := ⟨some 33, _, _, _, _, _⟩) rfl (fun K hK => ?_) AllReadyH.nil
  go_simp
  have HL23 := h_ (show Calls Tryz.prog 27 #[.pointer (some ⟨b, 0, none⟩), .slice (some ⟨w121.heap.size, 0, none⟩) 6 6] (w121.alloc (.cells #[.string ⟨#[99, 111, 114, 101]⟩, .string (ba (intL (i : Nat))), .string ⟨#[115, 112, 97, 99, 101]⟩, .string (ba (intL (space : Nat))), .string ⟨#[116, 97, 98, 108, 101]⟩, .string (ba (hexL table))] 9)) _ from e0u B b _ _ _ [⟨#[99, 111, 114, 101]⟩, ba (intL (i : Nat)), ⟨#[115, 112, 97, 99, 101]⟩, ba (intL (space : Nat)), ⟨#[116, 97, 98, 108, 101]⟩, ba (hexL table)] (w121.alloc (.cells #[.string ⟨#[99, 111, 114, 101]⟩, .string (ba (intL (i : Nat))), .string ⟨#[115, 112, 97, 99, 101]⟩, .string (ba (intL (space : Nat))), .string ⟨#[116, 97, 98, 108, 101]⟩, .string (ba (hexL table))] 9)) HW22.out HX22.out (by simp) (h0w ++ ([32] ++ (intL (i : Nat) ++ ([32] ++ (m0t ++ ([32] ++ (intL (space : Nat) ++ ([32] ++ (a0s ++ ([32] ++ hexL table)))))))))) (by exact join6 h0w (intL (i : Nat)) m0t (intL (space : Nat)) a0s (hexL table)) (by have := HLN.out; rw [HE0.out] at this; exact this) (Nat.le_trans HB1.out HK22.out.below.size))
  go_at_call 27
  refine HL23.out.mono ?_
  rintro e w123 ⟨rfl, hw, hk⟩
  have HW23 := h_ (show WB B b (Lib.byteCells (L0)) w123 from by have q := hw; rw [HL0.out] at q; exact q)
  have HK23 := h_ (HK22.out.trans hk)
  clear hw hk HL23
  refine hK.out _ _ (by (try dsimp only); exact ⟨(HM1.out.wk HK23.out HNE.out (by decide)).cell 1, (HM1.out.wk HK23.out HNE.out (by decide)).cell 2⟩) ?_
  clear hK K hHeld
  intro hHeld
  try simp only [Act.put, tka, tk0, tkS]
  refine wpAnyH_done (by kernel_rfl) ?_ _
  clear hHeld
  have HWx := h_ HW23.out
  have HKx := h_ HK23.out
  generalize w123 = wx at *)
 all_goals (
  have HMx := h_ (HM1.out.wk HKx.out HNE.out (by decide))
  have m0 := HMx.out.cell 0
  simp only [gz_, gs_] at m0
  have hb0 := HMx.out.lt
  go_wp2_with fail
  clear m0 hb0 HMx
  go_loopw [37] (fun a wr => ∃ k : Nat, k ≤ regs.length ∧ a = .int .i64 k ∧ Hid (WB B b (Lib.byteCells (L0 ++ L10 (a0t (regs.take k) 0))) wr) ∧ Hid (WK B b w1 wr)) (fun a _ => regs.length - (intOf a).toNat)
  case atStart => exact ⟨0, by omega, rfl, h_ (by have q := HWx.out; simpa [a0t, j0x] using q), HKx⟩
  case round =>
   obtain ⟨k, hk, rfl, HWr, HKr⟩ := hrel
   have hsz := HSZ.out
   by_cases hkl : k < regs.length
   ·have hk0 : (0 : Int) ≤ k := by omega
    have hkn : (k : Int) < regs.length := by omega
    obtain ⟨g, off, rfl, hcell⟩ := k0g (HRr.out wr HKr.out) hkl
    have hvl := HRL.out (regs.getD k 0) (by rw [List.getD_eq_getElem?_getD, List.getElem?_eq_getElem hkl]; exact List.getElem_mem hkl)
    have HT := h_ (t0j hkl)
    rw [show regs[k] = regs.getD k 0 by simp [List.getD, List.getElem?_eq_getElem hkl]] at HT
    have HLE := h_ (w0y regs (k + 1))
    generalize regs.getD k 0 = v at *
    have HHV := h_ (fun w2 => HHX.out w2 v hvl)
    clear hvl
    by_cases hv : v = 0
    ·subst hv
     have HT2 := h_ (show a0t (regs.take (k + 1)) 0 = a0t (regs.take k) 0 from by rw [HT.out]; simp)
     go_wp2_with fail
     go_roundw
     case rel => exact ⟨k + 1, by omega, by go_num, h_ (by rw [HT2.out]; exact HWr.out), HKr⟩
     case measure => simp [intOf] <;> omega
    ·have hvb : (((v : Nat) : Int) == 0) = false := by rw [beq_eq_false_iff_ne]; omega
     have HLT := h_ (show (L0 ++ L10 (a0t (regs.take k) 0)).length + (p0i ++ ([32] ++ (regL (k : Nat) ++ ([32] ++ ([61] ++ ([32] ++ hexL v)))))).length + 1 ≤ 1000000000 ∧ (L0 ++ L10 (a0t (regs.take k) 0)) ++ ((p0i ++ ([32] ++ (regL (k : Nat) ++ ([32] ++ ([61] ++ ([32] ++ hexL v)))))) ++ [10]) = L0 ++ L10 (a0t (regs.take (k + 1)) 0) from by
      have e : (L0 ++ L10 (a0t (regs.take k) 0)) ++ ((p0i ++ ([32] ++ (regL (k : Nat) ++ ([32] ++ ([61] ++ ([32] ++ hexL v)))))) ++ [10]) = L0 ++ L10 (a0t (regs.take (k + 1)) 0) := by
       rw [HT.out, if_neg hv, e0d, s0m]; simp [flat, z0l]
      refine ⟨?_, e⟩
      have q := congrArg List.length e
      have q2 := HLL.out
      have q3 := HLE.out
      rw [List.length_append, List.length_append] at q
      simp only [List.length_append, List.length_singleton] at q q2 q3 ⊢
      omega)
     clear hv
     go_wp2_with fail
     refine (h0o (k : Nat) wr (by omega)).mono ?_
     rintro e w101 ⟨rfl, hb⟩
     have hb : Below wr.heap.size wr w101 := by obtain ⟨m, rfl⟩ := hb; exact bd_ (Below.refl _ _) m
     have HW1 := h_ (HWr.out.keep hb)
     have HK1 := h_ (HKr.out.trans (WK.ofBelow hb (Nat.le_trans HB1.out HKr.out.below.size)))
     clear hb
     go_wp2_with fail
     refine (HHV.out w101).mono ?_
     rintro e w102 ⟨rfl, hb⟩
     have HW2 := h_ (HW1.out.keep hb)
     have HK2 := h_ (HK1.out.trans (WK.ofBelow hb (Nat.le_trans HB1.out HK1.out.below.size)))
     clear hb
     have hb : Below w102.heap.size w102 (w102.alloc (.cells #[.string ⟨#[114, 101, 103]⟩, .string (ba (regL (k : Nat))), .string ⟨#[61]⟩, .string (ba (hexL v))] 9)) := bl_ (Below.refl _ _) _
     have HX3 := h_ (show Blk (w102.alloc (.cells #[.string ⟨#[114, 101, 103]⟩, .string (ba (regL (k : Nat))), .string ⟨#[61]⟩, .string (ba (hexL v))] 9)) 9 w102.heap.size [.string ⟨#[114, 101, 103]⟩, .string (ba (regL (k : Nat))), .string ⟨#[61]⟩, .string (ba (hexL v))] from Blk.new w102 _ _)
     have HW3 := h_ (HW2.out.keep hb)
     have HK3 := h_ (HK2.out.trans (WK.ofBelow hb (Nat.le_trans HB1.out HK2.out.below.size)))
     clear hb
     have HL4 := h_ (show Calls Tryz.prog 27 #[.pointer (some ⟨b, 0, none⟩), .slice (some ⟨w102.heap.size, 0, none⟩) 4 4] (w102.alloc (.cells #[.string ⟨#[114, 101, 103]⟩, .string (ba (regL (k : Nat))), .string ⟨#[61]⟩, .string (ba (hexL v))] 9)) _ from e0u B b _ _ _ [⟨#[114, 101, 103]⟩, ba (regL (k : Nat)), ⟨#[61]⟩, ba (hexL v)] (w102.alloc (.cells #[.string ⟨#[114, 101, 103]⟩, .string (ba (regL (k : Nat))), .string ⟨#[61]⟩, .string (ba (hexL v))] 9)) HW3.out HX3.out (by simp) (p0i ++ ([32] ++ (regL (k : Nat) ++ ([32] ++ ([61] ++ ([32] ++ hexL v)))))) (by exact n1m p0i (regL (k : Nat)) [61] (hexL v)) (by have := HLT.out.1; exact this) (Nat.le_trans HB1.out HK3.out.below.size))
     go_wp2_with fail
     refine HL4.out.mono ?_
     rintro e w104 ⟨rfl, hw, hk⟩
     have HW4 := h_ (show WB B b (Lib.byteCells (L0 ++ L10 (a0t (regs.take (k + 1)) 0))) w104 from by have q := hw; rw [HLT.out.2] at q; exact q)
     have HK4 := h_ (HK3.out.trans hk)
     clear hw hk HL4
     go_wp2_with fail
     go_roundw
     case rel => exact ⟨k + 1, by omega, by go_num, HW4, HK4⟩
     case measure => simp [intOf] <;> omega
   ·obtain rfl : k = regs.length := by omega
    rw [List.take_length] at HWr
    have HMx := h_ (HM1.out.wk HKr.out HNE.out (by decide))
    have m3 := HMx.out.cell 3
    simp only [gz_, gs_] at m3
    have hb0 := HMx.out.lt
    have HW8 := HWr
    have HK8 := HKr
    clear HWr HKr hkl
    go_wp2_with fail
    clear m3 hb0 HMx
    go_loopw [55] (fun a wr => ∃ k : Nat, k ≤ code.length ∧ a = .int .i64 k ∧ Hid (WB B b (Lib.byteCells ((L0 ++ L10 (a0t regs 0)) ++ L10 ((code.take k).map insT))) wr) ∧ Hid (WK B b w1 wr)) (fun a _ => code.length - (intOf a).toNat)
    case atStart => exact ⟨0, by omega, rfl, h_ (by have q := HW8.out; simpa [j0x] using q), HK8⟩
    case round =>
     obtain ⟨k, hk, rfl, HWr, HKr⟩ := hrel
     have hsz := HSZ.out
     by_cases hkl : k < code.length
     ·have hk0 : (0 : Int) ≤ k := by omega
      have hkn : (k : Int) < code.length := by omega
      obtain ⟨g, off, rfl, a0, a1, a2, a3, a4, a5⟩ := k0h (HRc.out wr HKr.out) hkl
      have hri := HCI.out.1 code[k] (List.getElem_mem hkl)
      have HT := h_ (i0l insT hkl)
      have HLE := h_ (l0b insT code (k + 1))
      generalize code[k] = x at *
      obtain ⟨op, d, n, m, imm, kind⟩ := x
      dsimp only at a0 a1 a2 a3 a4 a5 hri
      have HHV := h_ (fun w2 => r0l op d n m imm kind w2 (t0g hri))
      clear hri
      have HLT := h_ (show ((L0 ++ L10 (a0t regs 0)) ++ L10 ((code.take k).map insT)).length + (b0b op d n m imm kind).length + 1 ≤ 1000000000 ∧ ((L0 ++ L10 (a0t regs 0)) ++ L10 ((code.take k).map insT)) ++ (b0b op d n m imm kind ++ [10]) = (L0 ++ L10 (a0t regs 0)) ++ L10 ((code.take (k + 1)).map insT) from by
       have e : ((L0 ++ L10 (a0t regs 0)) ++ L10 ((code.take k).map insT)) ++ (b0b op d n m imm kind ++ [10]) = (L0 ++ L10 (a0t regs 0)) ++ L10 ((code.take (k + 1)).map insT) := by
        rw [HT.out]; simp [insT]
       refine ⟨?_, e⟩
       have q := congrArg List.length e
       have q2 := HLL.out
       have q3 := HLE.out
       have e7 : c0u.length = 7 := rfl
       rw [List.length_append, List.length_append] at q
       simp only [List.length_append, List.length_singleton] at q q2 q3 ⊢
       omega)
      have hb : Below wr.heap.size wr (wr.alloc (.cells #[.int .i64 op, .int .i64 d, .int .i64 n, .int .i64 m, .int .i64 imm, .int .i64 kind] 91)) := bl_ (Below.refl _ _) _
      have HW11 := h_ (HWr.out.keep hb)
      have HK11 := h_ (HKr.out.trans (WK.ofBelow hb (Nat.le_trans HB1.out HKr.out.below.size)))
      have HD2 := h_ (Blk.new wr 91 [.int .i64 op, .int .i64 d, .int .i64 n, .int .i64 m, .int .i64 imm, .int .i64 kind])
      dsimp only [List.toArray] at HD2
      clear hb
      go_wp2_with fail
      generalize wr.alloc (.cells #[.int .i64 op, .int .i64 d, .int .i64 n, .int .i64 m, .int .i64 imm, .int .i64 kind] 91) = w2 at *
      clear a0 a1 a2 a3 a4 a5
      go_wp2_with fail
      refine (HHV.out w2).mono ?_
      rintro e w112 ⟨rfl, hb⟩
      have HW12 := h_ (HW11.out.keep hb)
      have HK12 := h_ (HK11.out.trans (WK.ofBelow hb (Nat.le_trans HB1.out HK11.out.below.size)))
      clear hb
      have hb : Below w112.heap.size w112 (w112.alloc (.cells #[.string (ba (b0b op d n m imm kind))] 9)) := bl_ (Below.refl _ _) _
      have HX13 := h_ (show Blk (w112.alloc (.cells #[.string (ba (b0b op d n m imm kind))] 9)) 9 w112.heap.size [.string (ba (b0b op d n m imm kind))] from Blk.new w112 _ _)
      have HW13 := h_ (HW12.out.keep hb)
      have HK13 := h_ (HK12.out.trans (WK.ofBelow hb (Nat.le_trans HB1.out HK12.out.below.size)))
      clear hb
      have HL14 := h_ (show Calls Tryz.prog 27 #[.pointer (some ⟨b, 0, none⟩), .slice (some ⟨w112.heap.size, 0, none⟩) 1 1] (w112.alloc (.cells #[.string (ba (b0b op d n m imm kind))] 9)) _ from e0u B b _ _ _ [ba (b0b op d n m imm kind)] (w112.alloc (.cells #[.string (ba (b0b op d n m imm kind))] 9)) HW13.out HX13.out (by simp) (b0b op d n m imm kind) (by exact n1n (b0b op d n m imm kind)) (by have := HLT.out.1; exact this) (Nat.le_trans HB1.out HK13.out.below.size))
      go_wp2_with fail
      refine HL14.out.mono ?_
      rintro e w114 ⟨rfl, hw, hk⟩
      have HW14 := h_ (show WB B b (Lib.byteCells ((L0 ++ L10 (a0t regs 0)) ++ L10 ((code.take (k + 1)).map insT))) w114 from by have q := hw; rw [HLT.out.2] at q; exact q)
      have HK14 := h_ (HK13.out.trans hk)
      clear hw hk HL14
      go_wp2_with fail
      go_roundw
      case rel => exact ⟨k + 1, by omega, by go_num, HW14, HK14⟩
      case measure => simp [intOf] <;> omega
     ·obtain rfl : k = code.length := by omega
      rw [List.take_length] at HWr
      have HMx := h_ (HM1.out.wk HKr.out HNE.out (by decide))
      have m4 := HMx.out.cell 4
      simp only [gz_, gs_] at m4
      have hb0 := HMx.out.lt
      have HW9 := HWr
      have HK9 := HKr
      clear HWr HKr hkl
      by_cases hh0 : hand.length = 0
      ·have hhi : ¬ (0 : Int) < hand.length := by omega
       have HHE := h_ (show hand = [] from List.length_eq_zero_iff.1 hh0)
       clear hh0
       go_wp2_with fail
       go_loopw [75] (fun a wr => a = .int .i64 0 ∧ Hid (WB B b (Lib.byteCells ((L0 ++ L10 (a0t regs 0)) ++ L10 (code.map insT))) wr) ∧ Hid (WK B b w1 wr)) (fun a _ => 0)
       case atStart => exact ⟨rfl, HW9, HK9⟩
       case round =>
        obtain ⟨rfl, HWr, HKr⟩ := hrel
        go_wp2_with fail
        go_end0
        exact ⟨rfl, by rw [HEQ0.out HHE.out]; exact HWr.out, HK0.out.trans HKr.out⟩
      ·have hhi : (0 : Int) < hand.length := by omega
       have HHE := h_ (show ¬ hand = [] from fun e => hh0 (by rw [e]; rfl))
       clear hh0
       have HLT := h_ (show ((L0 ++ L10 (a0t regs 0)) ++ L10 (code.map insT)).length + c0u.length + 1 ≤ 1000000000 from by have q := HLL.out; simp only [List.length_append] at q ⊢; have e : c0u.length = 7 := rfl; omega)
       have hb : Below wr.heap.size wr (wr.alloc (.cells #[.string ⟨#[104, 97, 110, 100, 108, 101, 114]⟩] 9)) := bl_ (Below.refl _ _) _
       have HX5 := h_ (show Blk (wr.alloc (.cells #[.string ⟨#[104, 97, 110, 100, 108, 101, 114]⟩] 9)) 9 wr.heap.size [.string ⟨#[104, 97, 110, 100, 108, 101, 114]⟩] from Blk.new wr _ _)
       have HW5 := h_ (HW9.out.keep hb)
       have HK5 := h_ (HK9.out.trans (WK.ofBelow hb (Nat.le_trans HB1.out HK9.out.below.size)))
       clear hb
       have HL6 := h_ (show Calls Tryz.prog 27 #[.pointer (some ⟨b, 0, none⟩), .slice (some ⟨wr.heap.size, 0, none⟩) 1 1] (wr.alloc (.cells #[.string ⟨#[104, 97, 110, 100, 108, 101, 114]⟩] 9)) _ from e0u B b _ _ _ [⟨#[104, 97, 110, 100, 108, 101, 114]⟩] (wr.alloc (.cells #[.string ⟨#[104, 97, 110, 100, 108, 101, 114]⟩] 9)) HW5.out HX5.out (by simp) (c0u) (by exact n1n c0u) (by exact HLT.out) (Nat.le_trans HB1.out HK5.out.below.size))
       go_wp2_with fail
       refine HL6.out.mono ?_
       rintro e w106 ⟨rfl, hw, hk⟩
       have HW6 := h_ (show WB B b (Lib.byteCells (((L0 ++ L10 (a0t regs 0)) ++ L10 (code.map insT)) ++ (c0u ++ [10]))) w106 from by exact hw)
       have HK6 := h_ (HK5.out.trans hk)
       clear hw hk HL6
       clear m4 hb0 HMx
       have HMx := h_ (HM1.out.wk HK6.out HNE.out (by decide))
       have m4 := HMx.out.cell 4
       simp only [gz_, gs_] at m4
       have hb0 := HMx.out.lt
       go_wp2_with fail
       clear m4 hb0 HMx
       go_loopw [75] (fun a wr => ∃ k : Nat, k ≤ hand.length ∧ a = .int .i64 k ∧ Hid (WB B b (Lib.byteCells ((((L0 ++ L10 (a0t regs 0)) ++ L10 (code.map insT)) ++ (c0u ++ [10])) ++ L10 ((hand.take k).map insT))) wr) ∧ Hid (WK B b w1 wr)) (fun a _ => hand.length - (intOf a).toNat)
       case atStart => exact ⟨0, by omega, rfl, h_ (by have q := HW6.out; simpa [j0x] using q), HK6⟩
       case round =>
        obtain ⟨k, hk, rfl, HWr, HKr⟩ := hrel
        have hsz := HSZ.out
        by_cases hkl : k < hand.length
        ·have hk0 : (0 : Int) ≤ k := by omega
         have hkn : (k : Int) < hand.length := by omega
         obtain ⟨g, off, rfl, a0, a1, a2, a3, a4, a5⟩ := k0h (HRh.out wr HKr.out) hkl
         have hri := HCI.out.2 hand[k] (List.getElem_mem hkl)
         have HT := h_ (i0l insT hkl)
         have HLE := h_ (l0b insT hand (k + 1))
         generalize hand[k] = x at *
         obtain ⟨op, d, n, m, imm, kind⟩ := x
         dsimp only at a0 a1 a2 a3 a4 a5 hri
         have HHV := h_ (fun w2 => r0l op d n m imm kind w2 (t0g hri))
         clear hri
         have HLT := h_ (show ((((L0 ++ L10 (a0t regs 0)) ++ L10 (code.map insT)) ++ (c0u ++ [10])) ++ L10 ((hand.take k).map insT)).length + (b0b op d n m imm kind).length + 1 ≤ 1000000000 ∧ ((((L0 ++ L10 (a0t regs 0)) ++ L10 (code.map insT)) ++ (c0u ++ [10])) ++ L10 ((hand.take k).map insT)) ++ (b0b op d n m imm kind ++ [10]) = (((L0 ++ L10 (a0t regs 0)) ++ L10 (code.map insT)) ++ (c0u ++ [10])) ++ L10 ((hand.take (k + 1)).map insT) from by
          have e : ((((L0 ++ L10 (a0t regs 0)) ++ L10 (code.map insT)) ++ (c0u ++ [10])) ++ L10 ((hand.take k).map insT)) ++ (b0b op d n m imm kind ++ [10]) = (((L0 ++ L10 (a0t regs 0)) ++ L10 (code.map insT)) ++ (c0u ++ [10])) ++ L10 ((hand.take (k + 1)).map insT) := by
           rw [HT.out]; simp [insT]
          refine ⟨?_, e⟩
          have q := congrArg List.length e
          have q2 := HLL.out
          have q3 := HLE.out
          have e7 : c0u.length = 7 := rfl
          rw [List.length_append, List.length_append] at q
          simp only [List.length_append, List.length_singleton] at q q2 q3 ⊢
          omega)
         have hb : Below wr.heap.size wr (wr.alloc (.cells #[.int .i64 op, .int .i64 d, .int .i64 n, .int .i64 m, .int .i64 imm, .int .i64 kind] 91)) := bl_ (Below.refl _ _) _
         have HW7 := h_ (HWr.out.keep hb)
         have HK7 := h_ (HKr.out.trans (WK.ofBelow hb (Nat.le_trans HB1.out HKr.out.below.size)))
         have HD2 := h_ (Blk.new wr 91 [.int .i64 op, .int .i64 d, .int .i64 n, .int .i64 m, .int .i64 imm, .int .i64 kind])
         dsimp only [List.toArray] at HD2
         clear hb
         go_wp2_with fail
         generalize wr.alloc (.cells #[.int .i64 op, .int .i64 d, .int .i64 n, .int .i64 m, .int .i64 imm, .int .i64 kind] 91) = w2 at *
         clear a0 a1 a2 a3 a4 a5
         go_wp2_with fail
         refine (HHV.out w2).mono ?_
         rintro e w108 ⟨rfl, hb⟩
         have HW8 := h_ (HW7.out.keep hb)
         have HK8 := h_ (HK7.out.trans (WK.ofBelow hb (Nat.le_trans HB1.out HK7.out.below.size)))
         clear hb
         have hb : Below w108.heap.size w108 (w108.alloc (.cells #[.string (ba (b0b op d n m imm kind))] 9)) := bl_ (Below.refl _ _) _
         have HX9 := h_ (show Blk (w108.alloc (.cells #[.string (ba (b0b op d n m imm kind))] 9)) 9 w108.heap.size [.string (ba (b0b op d n m imm kind))] from Blk.new w108 _ _)
         have HW9 := h_ (HW8.out.keep hb)
         have HK9 := h_ (HK8.out.trans (WK.ofBelow hb (Nat.le_trans HB1.out HK8.out.below.size)))
         clear hb
         have HL10 := h_ (show Calls Tryz.prog 27 #[.pointer (some ⟨b, 0, none⟩), .slice (some ⟨w108.heap.size, 0, none⟩) 1 1] (w108.alloc (.cells #[.string (ba (b0b op d n m imm kind))] 9)) _ from e0u B b _ _ _ [ba (b0b op d n m imm kind)] (w108.alloc (.cells #[.string (ba (b0b op d n m imm kind))] 9)) HW9.out HX9.out (by simp) (b0b op d n m imm kind) (by exact n1n (b0b op d n m imm kind)) (by have := HLT.out.1; exact this) (Nat.le_trans HB1.out HK9.out.below.size))
         go_wp2_with fail
         refine HL10.out.mono ?_
         rintro e w110 ⟨rfl, hw, hk⟩
         have HW10 := h_ (show WB B b (Lib.byteCells ((((L0 ++ L10 (a0t regs 0)) ++ L10 (code.map insT)) ++ (c0u ++ [10])) ++ L10 ((hand.take (k + 1)).map insT))) w110 from by have q := hw; rw [HLT.out.2] at q; exact q)
         have HK10 := h_ (HK9.out.trans hk)
         clear hw hk HL10
         go_wp2_with fail
         go_roundw
         case rel => exact ⟨k + 1, by omega, by go_num, HW10, HK10⟩
         case measure => simp [intOf] <;> omega
        ·obtain rfl : k = hand.length := by omega
         rw [List.take_length] at HWr
         go_wp2_with fail
         go_end0
         exact ⟨rfl, by rw [HEQ1.out HHE.out]; exact HWr.out, HK0.out.trans HKr.out⟩)
end
end Go.Proofs.YtmnojnopejhebaaGreat
