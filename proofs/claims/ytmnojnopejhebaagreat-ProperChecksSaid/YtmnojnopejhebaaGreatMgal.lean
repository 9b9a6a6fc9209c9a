/- Whether a condition may be: the walks. -/
import Derived.Test.YtmnojnopejhebaaGreatMgaj
import Derived.Test.YtmnojnopejhebaaGreatMgak
namespace Go.Proofs.YtmnojnopejhebaaGreat
set_option linter.unusedVariables false
set_option linter.unusedSimpArgs false
set_option maxRecDepth 100000
set_option maxHeartbeats 25600000
section
open Go.RowKit
theorem a1s (cores : Int) : ∀ (t : CT) (w : World) (S : Nat → Prop) (cs : List Value), CT.At w S t cs →
  Calls Tryz.prog 74 #[.agg cs.toArray, .int .i64 cores] w fun e w' => e = .returned (.int .i64 (a0w cores t)) ∧ Below w.heap.size w w' := by
 intro t
 refine CT.ind (P := fun t => ∀ (w : World) (S : Nat → Prop) (cs : List Value), CT.At w S t cs → Calls Tryz.prog 74 #[.agg cs.toArray, .int .i64 cores] w fun e w' => e = .returned (.int .i64 (a0w cores t)) ∧ Below w.heap.size w w') ?_ t
 intro k c r a v args IH w S cs ht
 obtain ⟨p, cap, rfl, h1, h2, h3, h4, h5⟩ := ht.own
 have HI := h_ IH
 have HVB := h_ (show ∀ e : Int, ¬ e = 0 → c0i k c r cores args.length = e → a0w cores (.mk k c r a v args) = e from fun e h0 he => by rw [a0w, he, if_neg h0])
 have HVO := h_ (show c0i k c r cores args.length = 0 → a0w cores (.mk k c r a v args) = b0p cores args from fun he => by rw [a0w, if_pos he])
 generalize a0w cores (.mk k c r a v args) = R at *
 generalize hlen : args.length = ln at *
 have HN := h_ (k0j w #[.int .i64 k, .int .i64 c, .int .i64 r, .int .u64 (a : Nat), .int .u64 (v : Nat), .slice p ln cap])
 have HB := h_ (show Below w.heap.size w (w.alloc (.cells #[.int .i64 k, .int .i64 c, .int .i64 r, .int .u64 (a : Nat), .int .u64 (v : Nat), .slice p ln cap] 29)) from bl_ (Below.refl _ _) _)
 have HR := h_ (h5.below HB.out)
 have hcap : cap ≤ 9223372036854775807 := by unfold maxLen at h2; omega
 have HLEN := h_ hlen
 clear ht IH h5 h4 hlen
 obtain ⟨n0, n1, n2, n3, n4, n5⟩ := b0z HN.out
 have lens : ∀ x : Nat, ¬ ln = x → ¬ (ln : Int) = x ∧ ((ln : Int) == x) = false ∧ ((ln : Int) != x) = true := fun x h => ⟨by omega, by rw [beq_eq_false_iff_ne]; omega, by rw [bne_iff_ne]; omega⟩
 by_cases k1 : k = 1
 ·subst k1
  by_cases r0 : r < 0
  ·clear lens
   have HX := HVB.out 1 (by decide) (by unfold c0i; rw [show c0w 1 = 0 from rfl]; rw [if_pos (by omega)])
   clear HVB HVO HI HR
   go_enter Tryz.func74, Tryz.ntmps74
   go_wp2_with fail
   go_ret
   exact ⟨rfl, HB.out⟩
  by_cases r31 : 31 ≤ r
  ·clear lens
   have HX := HVB.out 1 (by decide) (by unfold c0i; rw [show c0w 1 = 0 from rfl]; rw [if_pos (by omega)])
   clear HVB HVO HI HR
   go_enter Tryz.func74, Tryz.ntmps74
   go_wp2_with fail
   go_ret
   exact ⟨rfl, HB.out⟩
  by_cases hl : ln = 0
  ·clear lens
   subst hl
   by_cases c0 : c < 0
   ·skip
    have HX := HVB.out 131 (by decide) (by unfold c0i; rw [show c0w 1 = 0 from rfl]; rw [if_neg (by omega), if_pos (by omega)])
    clear HVB HVO HI HR
    go_enter Tryz.func74, Tryz.ntmps74
    go_wp2_with fail
    go_ret
    exact ⟨rfl, HB.out⟩
   by_cases cn : cores ≤ c
   ·skip
    have HX := HVB.out 131 (by decide) (by unfold c0i; rw [show c0w 1 = 0 from rfl]; rw [if_neg (by omega), if_pos (by omega)])
    clear HVB HVO HI HR
    go_enter Tryz.func74, Tryz.ntmps74
    go_wp2_with fail
    go_ret
    exact ⟨rfl, HB.out⟩
   have HX := h_ (HVO.out (by unfold c0i; rw [show c0w 1 = 0 from rfl, if_neg (by omega), if_neg (by omega)]))
   clear HVB HVO
   go_enter Tryz.func74, Tryz.ntmps74
   generalize hW1 : w.alloc (.cells #[.int .i64 1, .int .i64 c, .int .i64 r, .int .u64 (a : Nat), .int .u64 (v : Nat), .slice p 0 cap] 29) = w1 at *
   have hsz : w.heap.size < w1.heap.size := by rw [← hW1]; first | (simp; done) | (simp; omega)
   have HW1 := h_ hW1
   clear hW1
   go_wp2_with fail
   go_loopw [57] (fun i wr => ∃ j : Nat, j ≤ 0 ∧ i = .int .i64 j ∧ b0p cores (args.take j) = 0 ∧ Below w1.heap.size w1 wr) (fun i _ => 0 - (intOf i).toNat)
   case atStart => exact ⟨0, by omega, rfl, by simp [b0p], by rw [HW1.out]; exact Below.refl _ _⟩
   case round =>
    obtain ⟨j, hj, rfl, h0, hb⟩ := hrel
    have HBR := h_ hb
    have n5r := cell_below n5 hb
    clear hb
    by_cases hjl : j < 0
    ·exact absurd hjl (by omega)
    ·obtain rfl : j = 0 := by omega
     have HF := h_ (show R = 0 from by rw [HX.out]; have := h0; rwa [← HLEN.out, List.take_length] at this)
     go_wp2_with fail
     go_ret
     exact ⟨by rw [HF.out]; rfl, bt_ HB.out HBR.out⟩
  ·obtain ⟨l1, l2, l3⟩ := lens _ hl
   clear lens
   have HX := HVB.out 1 (by decide) (by unfold c0i; rw [show c0w 1 = 0 from rfl]; rw [if_pos (by omega)])
   clear HVB HVO HI HR
   go_enter Tryz.func74, Tryz.ntmps74
   go_wp2_with fail
   go_ret
   exact ⟨rfl, HB.out⟩
 have e1 : (k == 1) = false := by rw [beq_eq_false_iff_ne]; exact k1
 by_cases k2 : k = 2
 ·subst k2
  by_cases hl : ln = 0
  ·clear lens
   subst hl
   have HX := h_ (HVO.out (by unfold c0i; rw [show c0w 2 = 0 from rfl, if_neg (by omega), if_neg (by omega)]))
   clear HVB HVO
   go_enter Tryz.func74, Tryz.ntmps74
   generalize hW1 : w.alloc (.cells #[.int .i64 2, .int .i64 c, .int .i64 r, .int .u64 (a : Nat), .int .u64 (v : Nat), .slice p 0 cap] 29) = w1 at *
   have hsz : w.heap.size < w1.heap.size := by rw [← hW1]; first | (simp; done) | (simp; omega)
   have HW1 := h_ hW1
   clear hW1
   go_wp2_with fail
   go_loopw [57] (fun i wr => ∃ j : Nat, j ≤ 0 ∧ i = .int .i64 j ∧ b0p cores (args.take j) = 0 ∧ Below w1.heap.size w1 wr) (fun i _ => 0 - (intOf i).toNat)
   case atStart => exact ⟨0, by omega, rfl, by simp [b0p], by rw [HW1.out]; exact Below.refl _ _⟩
   case round =>
    obtain ⟨j, hj, rfl, h0, hb⟩ := hrel
    have HBR := h_ hb
    have n5r := cell_below n5 hb
    clear hb
    by_cases hjl : j < 0
    ·exact absurd hjl (by omega)
    ·obtain rfl : j = 0 := by omega
     have HF := h_ (show R = 0 from by rw [HX.out]; have := h0; rwa [← HLEN.out, List.take_length] at this)
     go_wp2_with fail
     go_ret
     exact ⟨by rw [HF.out]; rfl, bt_ HB.out HBR.out⟩
  ·obtain ⟨l1, l2, l3⟩ := lens _ hl
   clear lens
   have HX := HVB.out 1 (by decide) (by unfold c0i; rw [show c0w 2 = 0 from rfl]; rw [if_pos (by omega)])
   clear HVB HVO HI HR
   go_enter Tryz.func74, Tryz.ntmps74
   go_wp2_with fail
   go_ret
   exact ⟨rfl, HB.out⟩
 have e2 : (k == 2) = false := by rw [beq_eq_false_iff_ne]; exact k2
 by_cases k3 : k = 3
 ·subst k3
  by_cases hl : ln = 0
  ·clear lens
   subst hl
   by_cases c0 : c < 0
   ·skip
    have HX := HVB.out 131 (by decide) (by unfold c0i; rw [show c0w 3 = 0 from rfl]; rw [if_neg (by omega), if_pos (by omega)])
    clear HVB HVO HI HR
    go_enter Tryz.func74, Tryz.ntmps74
    go_wp2_with fail
    go_ret
    exact ⟨rfl, HB.out⟩
   by_cases cn : cores ≤ c
   ·skip
    have HX := HVB.out 131 (by decide) (by unfold c0i; rw [show c0w 3 = 0 from rfl]; rw [if_neg (by omega), if_pos (by omega)])
    clear HVB HVO HI HR
    go_enter Tryz.func74, Tryz.ntmps74
    go_wp2_with fail
    go_ret
    exact ⟨rfl, HB.out⟩
   have HX := h_ (HVO.out (by unfold c0i; rw [show c0w 3 = 0 from rfl, if_neg (by omega), if_neg (by omega)]))
   clear HVB HVO
   go_enter Tryz.func74, Tryz.ntmps74
   generalize hW1 : w.alloc (.cells #[.int .i64 3, .int .i64 c, .int .i64 r, .int .u64 (a : Nat), .int .u64 (v : Nat), .slice p 0 cap] 29) = w1 at *
   have hsz : w.heap.size < w1.heap.size := by rw [← hW1]; first | (simp; done) | (simp; omega)
   have HW1 := h_ hW1
   clear hW1
   go_wp2_with fail
   go_loopw [57] (fun i wr => ∃ j : Nat, j ≤ 0 ∧ i = .int .i64 j ∧ b0p cores (args.take j) = 0 ∧ Below w1.heap.size w1 wr) (fun i _ => 0 - (intOf i).toNat)
   case atStart => exact ⟨0, by omega, rfl, by simp [b0p], by rw [HW1.out]; exact Below.refl _ _⟩
   case round =>
    obtain ⟨j, hj, rfl, h0, hb⟩ := hrel
    have HBR := h_ hb
    have n5r := cell_below n5 hb
    clear hb
    by_cases hjl : j < 0
    ·exact absurd hjl (by omega)
    ·obtain rfl : j = 0 := by omega
     have HF := h_ (show R = 0 from by rw [HX.out]; have := h0; rwa [← HLEN.out, List.take_length] at this)
     go_wp2_with fail
     go_ret
     exact ⟨by rw [HF.out]; rfl, bt_ HB.out HBR.out⟩
  ·obtain ⟨l1, l2, l3⟩ := lens _ hl
   clear lens
   have HX := HVB.out 1 (by decide) (by unfold c0i; rw [show c0w 3 = 0 from rfl]; rw [if_pos (by omega)])
   clear HVB HVO HI HR
   go_enter Tryz.func74, Tryz.ntmps74
   go_wp2_with fail
   go_ret
   exact ⟨rfl, HB.out⟩
 have e3 : (k == 3) = false := by rw [beq_eq_false_iff_ne]; exact k3
 by_cases k4 : k = 4
 ·subst k4
  by_cases hl : ln = 2
  ·clear lens
   subst hl
   have HX := h_ (HVO.out (by unfold c0i; rw [show c0w 4 = 2 from rfl, if_neg (by omega), if_neg (by omega)]))
   clear HVB HVO
   go_enter Tryz.func74, Tryz.ntmps74
   generalize hW1 : w.alloc (.cells #[.int .i64 4, .int .i64 c, .int .i64 r, .int .u64 (a : Nat), .int .u64 (v : Nat), .slice p 2 cap] 29) = w1 at *
   have hsz : w.heap.size < w1.heap.size := by rw [← hW1]; first | (simp; done) | (simp; omega)
   have HW1 := h_ hW1
   clear hW1
   go_wp2_with fail
   go_loopw [57] (fun i wr => ∃ j : Nat, j ≤ 2 ∧ i = .int .i64 j ∧ b0p cores (args.take j) = 0 ∧ Below w1.heap.size w1 wr) (fun i _ => 2 - (intOf i).toNat)
   case atStart => exact ⟨0, by omega, rfl, by simp [b0p], by rw [HW1.out]; exact Below.refl _ _⟩
   case round =>
    obtain ⟨j, hj, rfl, h0, hb⟩ := hrel
    have HBR := h_ hb
    have n5r := cell_below n5 hb
    clear hb
    by_cases hjl : j < 2
    ·have hj0 : (0 : Int) ≤ j := by omega
     have hjn : (j : Int) < 2 := by omega
     have hja : j < args.length := by rw [HLEN.out]; exact hjl
     obtain ⟨g, off, k', co', rg', ad', va', q', l', cp', rfl, e0, e1, e2, e3, e4, e5, hu⟩ := (HR.out.below HBR.out).part hja
     have HT := h_ (g0c cores args j hja h0)
     have HBA := h_ (bl_ (Below.refl wr.heap.size wr) (.cells #[.int .i64 k', .int .i64 co', .int .i64 rg', .int .u64 ad', .int .u64 va', .slice q' l' cp'] 29))
     have HC := h_ (HI.out _ (List.getElem_mem hja) _ S _ (hu.below HBA.out))
     clear hu
     generalize args[j] = u at *
     go_wp2_with fail
     refine (HC.out).mono ?_
     rintro e w4 ⟨rfl, hb4⟩
     have HB4 := h_ (bt_ (bt_ HBR.out HBA.out) hb4)
     clear hb4
     by_cases hz : a0w cores u = 0
     ·have HT2 := h_ (HT.out.1.trans hz)
      rw [hz]
      go_wp2_with fail
      go_roundw
      case rel => exact ⟨j + 1, by omega, by go_num, HT2.out, HB4.out⟩
      case measure => first | (simp [intOf]; omega) | simp [intOf]
     ·have HT2 := h_ (HT.out.2 hz)
      have hzb : (a0w cores u == 0) = false := by rw [beq_eq_false_iff_ne]; exact hz
      have hzb2 : (a0w cores u != 0) = true := by rw [bne_iff_ne]; exact hz
      clear HT
      generalize a0w cores u = X at *
      go_wp2_with fail
      go_ret
      exact ⟨by rw [HX.out, HT2.out]; rfl, bt_ HB.out HB4.out⟩
    ·obtain rfl : j = 2 := by omega
     have HF := h_ (show R = 0 from by rw [HX.out]; have := h0; rwa [← HLEN.out, List.take_length] at this)
     go_wp2_with fail
     go_ret
     exact ⟨by rw [HF.out]; rfl, bt_ HB.out HBR.out⟩
  ·obtain ⟨l1, l2, l3⟩ := lens _ hl
   clear lens
   have HX := HVB.out 1 (by decide) (by unfold c0i; rw [show c0w 4 = 2 from rfl]; rw [if_pos (by omega)])
   clear HVB HVO HI HR
   go_enter Tryz.func74, Tryz.ntmps74
   go_wp2_with fail
   go_ret
   exact ⟨rfl, HB.out⟩
 have e4 : (k == 4) = false := by rw [beq_eq_false_iff_ne]; exact k4
 by_cases k5 : k = 5
 ·subst k5
  by_cases hl : ln = 2
  ·clear lens
   subst hl
   have HX := h_ (HVO.out (by unfold c0i; rw [show c0w 5 = 2 from rfl, if_neg (by omega), if_neg (by omega)]))
   clear HVB HVO
   go_enter Tryz.func74, Tryz.ntmps74
   generalize hW1 : w.alloc (.cells #[.int .i64 5, .int .i64 c, .int .i64 r, .int .u64 (a : Nat), .int .u64 (v : Nat), .slice p 2 cap] 29) = w1 at *
   have hsz : w.heap.size < w1.heap.size := by rw [← hW1]; first | (simp; done) | (simp; omega)
   have HW1 := h_ hW1
   clear hW1
   go_wp2_with fail
   go_loopw [57] (fun i wr => ∃ j : Nat, j ≤ 2 ∧ i = .int .i64 j ∧ b0p cores (args.take j) = 0 ∧ Below w1.heap.size w1 wr) (fun i _ => 2 - (intOf i).toNat)
   case atStart => exact ⟨0, by omega, rfl, by simp [b0p], by rw [HW1.out]; exact Below.refl _ _⟩
   case round =>
    obtain ⟨j, hj, rfl, h0, hb⟩ := hrel
    have HBR := h_ hb
    have n5r := cell_below n5 hb
    clear hb
    by_cases hjl : j < 2
    ·have hj0 : (0 : Int) ≤ j := by omega
     have hjn : (j : Int) < 2 := by omega
     have hja : j < args.length := by rw [HLEN.out]; exact hjl
     obtain ⟨g, off, k', co', rg', ad', va', q', l', cp', rfl, e0, e1, e2, e3, e4, e5, hu⟩ := (HR.out.below HBR.out).part hja
     have HT := h_ (g0c cores args j hja h0)
     have HBA := h_ (bl_ (Below.refl wr.heap.size wr) (.cells #[.int .i64 k', .int .i64 co', .int .i64 rg', .int .u64 ad', .int .u64 va', .slice q' l' cp'] 29))
     have HC := h_ (HI.out _ (List.getElem_mem hja) _ S _ (hu.below HBA.out))
     clear hu
     generalize args[j] = u at *
     go_wp2_with fail
     refine (HC.out).mono ?_
     rintro e w4 ⟨rfl, hb4⟩
     have HB4 := h_ (bt_ (bt_ HBR.out HBA.out) hb4)
     clear hb4
     by_cases hz : a0w cores u = 0
     ·have HT2 := h_ (HT.out.1.trans hz)
      rw [hz]
      go_wp2_with fail
      go_roundw
      case rel => exact ⟨j + 1, by omega, by go_num, HT2.out, HB4.out⟩
      case measure => first | (simp [intOf]; omega) | simp [intOf]
     ·have HT2 := h_ (HT.out.2 hz)
      have hzb : (a0w cores u == 0) = false := by rw [beq_eq_false_iff_ne]; exact hz
      have hzb2 : (a0w cores u != 0) = true := by rw [bne_iff_ne]; exact hz
      clear HT
      generalize a0w cores u = X at *
      go_wp2_with fail
      go_ret
      exact ⟨by rw [HX.out, HT2.out]; rfl, bt_ HB.out HB4.out⟩
    ·obtain rfl : j = 2 := by omega
     have HF := h_ (show R = 0 from by rw [HX.out]; have := h0; rwa [← HLEN.out, List.take_length] at this)
     go_wp2_with fail
     go_ret
     exact ⟨by rw [HF.out]; rfl, bt_ HB.out HBR.out⟩
  ·obtain ⟨l1, l2, l3⟩ := lens _ hl
   clear lens
   have HX := HVB.out 1 (by decide) (by unfold c0i; rw [show c0w 5 = 2 from rfl]; rw [if_pos (by omega)])
   clear HVB HVO HI HR
   go_enter Tryz.func74, Tryz.ntmps74
   go_wp2_with fail
   go_ret
   exact ⟨rfl, HB.out⟩
 have e5 : (k == 5) = false := by rw [beq_eq_false_iff_ne]; exact k5
 by_cases k6 : k = 6
 ·subst k6
  by_cases hl : ln = 1
  ·clear lens
   subst hl
   have HX := h_ (HVO.out (by unfold c0i; rw [show c0w 6 = 1 from rfl, if_neg (by omega), if_neg (by omega)]))
   clear HVB HVO
   go_enter Tryz.func74, Tryz.ntmps74
   generalize hW1 : w.alloc (.cells #[.int .i64 6, .int .i64 c, .int .i64 r, .int .u64 (a : Nat), .int .u64 (v : Nat), .slice p 1 cap] 29) = w1 at *
   have hsz : w.heap.size < w1.heap.size := by rw [← hW1]; first | (simp; done) | (simp; omega)
   have HW1 := h_ hW1
   clear hW1
   go_wp2_with fail
   go_loopw [57] (fun i wr => ∃ j : Nat, j ≤ 1 ∧ i = .int .i64 j ∧ b0p cores (args.take j) = 0 ∧ Below w1.heap.size w1 wr) (fun i _ => 1 - (intOf i).toNat)
   case atStart => exact ⟨0, by omega, rfl, by simp [b0p], by rw [HW1.out]; exact Below.refl _ _⟩
   case round =>
    obtain ⟨j, hj, rfl, h0, hb⟩ := hrel
    have HBR := h_ hb
    have n5r := cell_below n5 hb
    clear hb
    by_cases hjl : j < 1
    ·obtain rfl : j = 0 := by omega
     have hja : 0 < args.length := by rw [HLEN.out]; exact hjl
     obtain ⟨g, off, k', co', rg', ad', va', q', l', cp', rfl, e0, e1, e2, e3, e4, e5, hu⟩ := (HR.out.below HBR.out).part hja
     simp only [Nat.zero_mul, Nat.add_zero] at e0 e1 e2 e3 e4 e5
     have HT := h_ (g0c cores args 0 hja h0)
     have HBA := h_ (bl_ (Below.refl wr.heap.size wr) (.cells #[.int .i64 k', .int .i64 co', .int .i64 rg', .int .u64 ad', .int .u64 va', .slice q' l' cp'] 29))
     have HC := h_ (HI.out _ (List.getElem_mem hja) _ S _ (hu.below HBA.out))
     clear hu
     generalize args[0] = u at *
     go_wp2_with fail
     refine (HC.out).mono ?_
     rintro e w4 ⟨rfl, hb4⟩
     have HB4 := h_ (bt_ (bt_ HBR.out HBA.out) hb4)
     clear hb4
     by_cases hz : a0w cores u = 0
     ·have HT2 := h_ (HT.out.1.trans hz)
      rw [hz]
      go_wp2_with fail
      go_roundw
      case rel => exact ⟨0 + 1, by omega, by go_num, HT2.out, HB4.out⟩
      case measure => first | (simp [intOf]; omega) | simp [intOf]
     ·have HT2 := h_ (HT.out.2 hz)
      have hzb : (a0w cores u == 0) = false := by rw [beq_eq_false_iff_ne]; exact hz
      have hzb2 : (a0w cores u != 0) = true := by rw [bne_iff_ne]; exact hz
      clear HT
      generalize a0w cores u = X at *
      go_wp2_with fail
      go_ret
      exact ⟨by rw [HX.out, HT2.out]; rfl, bt_ HB.out HB4.out⟩
    ·obtain rfl : j = 1 := by omega
     have HF := h_ (show R = 0 from by rw [HX.out]; have := h0; rwa [← HLEN.out, List.take_length] at this)
     go_wp2_with fail
     go_ret
     exact ⟨by rw [HF.out]; rfl, bt_ HB.out HBR.out⟩
  ·obtain ⟨l1, l2, l3⟩ := lens _ hl
   clear lens
   have HX := HVB.out 1 (by decide) (by unfold c0i; rw [show c0w 6 = 1 from rfl]; rw [if_pos (by omega)])
   clear HVB HVO HI HR
   go_enter Tryz.func74, Tryz.ntmps74
   go_wp2_with fail
   go_ret
   exact ⟨rfl, HB.out⟩
 have e6 : (k == 6) = false := by rw [beq_eq_false_iff_ne]; exact k6
 by_cases k7 : k = 7
 ·subst k7
  by_cases hl : ln = 0
  ·clear lens
   subst hl
   have HX := h_ (HVO.out (by unfold c0i; rw [show c0w 7 = 0 from rfl, if_neg (by omega), if_neg (by omega)]))
   clear HVB HVO
   go_enter Tryz.func74, Tryz.ntmps74
   generalize hW1 : w.alloc (.cells #[.int .i64 7, .int .i64 c, .int .i64 r, .int .u64 (a : Nat), .int .u64 (v : Nat), .slice p 0 cap] 29) = w1 at *
   have hsz : w.heap.size < w1.heap.size := by rw [← hW1]; first | (simp; done) | (simp; omega)
   have HW1 := h_ hW1
   clear hW1
   go_wp2_with fail
   go_loopw [57] (fun i wr => ∃ j : Nat, j ≤ 0 ∧ i = .int .i64 j ∧ b0p cores (args.take j) = 0 ∧ Below w1.heap.size w1 wr) (fun i _ => 0 - (intOf i).toNat)
   case atStart => exact ⟨0, by omega, rfl, by simp [b0p], by rw [HW1.out]; exact Below.refl _ _⟩
   case round =>
    obtain ⟨j, hj, rfl, h0, hb⟩ := hrel
    have HBR := h_ hb
    have n5r := cell_below n5 hb
    clear hb
    by_cases hjl : j < 0
    ·exact absurd hjl (by omega)
    ·obtain rfl : j = 0 := by omega
     have HF := h_ (show R = 0 from by rw [HX.out]; have := h0; rwa [← HLEN.out, List.take_length] at this)
     go_wp2_with fail
     go_ret
     exact ⟨by rw [HF.out]; rfl, bt_ HB.out HBR.out⟩
  ·obtain ⟨l1, l2, l3⟩ := lens _ hl
   clear lens
   have HX := HVB.out 1 (by decide) (by unfold c0i; rw [show c0w 7 = 0 from rfl]; rw [if_pos (by omega)])
   clear HVB HVO HI HR
   go_enter Tryz.func74, Tryz.ntmps74
   go_wp2_with fail
   go_ret
   exact ⟨rfl, HB.out⟩
 have e7 : (k == 7) = false := by rw [beq_eq_false_iff_ne]; exact k7
 clear lens
 have HX := HVB.out 1 (by decide) (by unfold c0i; rw [if_pos (by omega)])
 clear HVB HVO HI HR
 go_enter Tryz.func74, Tryz.ntmps74
 go_wp2_with fail
 go_ret
 exact ⟨rfl, HB.out⟩
theorem z0e (cores : Int) : ∀ (t : CT) (w : World) (S : Nat → Prop) (cs : List Value), CT.At w S t cs →
  Calls Tryz.prog 77 #[.agg cs.toArray, .int .i64 cores] w fun e w' => e = .returned (.int .i64 (a0w cores t)) ∧ Below w.heap.size w w' := by
 intro t
 refine CT.ind (P := fun t => ∀ (w : World) (S : Nat → Prop) (cs : List Value), CT.At w S t cs → Calls Tryz.prog 77 #[.agg cs.toArray, .int .i64 cores] w fun e w' => e = .returned (.int .i64 (a0w cores t)) ∧ Below w.heap.size w w') ?_ t
 intro k c r a v args IH w S cs ht
 obtain ⟨p, cap, rfl, h1, h2, h3, h4, h5⟩ := ht.own
 have HI := h_ IH
 have HVB := h_ (show ∀ e : Int, ¬ e = 0 → c0i k c r cores args.length = e → a0w cores (.mk k c r a v args) = e from fun e h0 he => by rw [a0w, he, if_neg h0])
 have HVO := h_ (show c0i k c r cores args.length = 0 → a0w cores (.mk k c r a v args) = b0p cores args from fun he => by rw [a0w, if_pos he])
 generalize a0w cores (.mk k c r a v args) = R at *
 generalize hlen : args.length = ln at *
 have HN := h_ (k0j w #[.int .i64 k, .int .i64 c, .int .i64 r, .int .u64 (a : Nat), .int .u64 (v : Nat), .slice p ln cap])
 have HB := h_ (show Below w.heap.size w (w.alloc (.cells #[.int .i64 k, .int .i64 c, .int .i64 r, .int .u64 (a : Nat), .int .u64 (v : Nat), .slice p ln cap] 29)) from bl_ (Below.refl _ _) _)
 have HR := h_ (h5.below HB.out)
 have hcap : cap ≤ 9223372036854775807 := by unfold maxLen at h2; omega
 have HLEN := h_ hlen
 clear ht IH h5 h4 hlen
 obtain ⟨n0, n1, n2, n3, n4, n5⟩ := b0z HN.out
 have HB2 := h_ (bt_ HB.out (bl_ (Below.refl _ _) (.cells #[.int .i64 (-1), .int .i64 0, .int .i64 0, .int .i64 0, .int .i64 2, .int .i64 2, .int .i64 1, .int .i64 0] 3)))
 have HR2 := h_ (HR.out.below (bl_ (Below.refl _ _) (.cells #[.int .i64 (-1), .int .i64 0, .int .i64 0, .int .i64 0, .int .i64 2, .int .i64 2, .int .i64 1, .int .i64 0] 3)))
 have HN2 := h_ (HN.out.below (bl_ (Below.refl _ _) (.cells #[.int .i64 (-1), .int .i64 0, .int .i64 0, .int .i64 0, .int .i64 2, .int .i64 2, .int .i64 1, .int .i64 0] 3)))
 have lens : ∀ x : Nat, ¬ ln = x → ¬ (ln : Int) = x ∧ ((ln : Int) == x) = false ∧ ((ln : Int) != x) = true := fun x h => ⟨by omega, by rw [beq_eq_false_iff_ne]; omega, by rw [bne_iff_ne]; omega⟩
 clear n0 n1 n2 n3 n4 n5
 obtain ⟨n0, n1, n2, n3, n4, n5⟩ := b0z HN2.out
 by_cases k1 : k = 1
 ·subst k1
  by_cases hl : ln = 0
  ·clear lens
   subst hl
   by_cases r0 : r < 0
   ·skip
    have HX := HVB.out 1 (by decide) (by unfold c0i; rw [show c0w 1 = 0 from rfl]; rw [if_pos (by omega)])
    clear HVB HVO HI HR HR2
    go_enter Tryz.func77, Tryz.ntmps77
    go_wp2_with fail
    go_quiet (fail)
    go_wp2_with fail
    go_ret
    exact ⟨by rw [HX]; rfl, bd_ HB2.out _⟩
   by_cases r31 : 31 ≤ r
   ·have r30 : (30 : Int) < r := by omega
    have HX := HVB.out 1 (by decide) (by unfold c0i; rw [show c0w 1 = 0 from rfl]; rw [if_pos (by omega)])
    clear HVB HVO HI HR HR2
    go_enter Tryz.func77, Tryz.ntmps77
    go_wp2_with fail
    go_quiet (fail)
    go_wp2_with fail
    go_ret
    exact ⟨by rw [HX]; rfl, bd_ HB2.out _⟩
   have r30 : ¬ (30 : Int) < r := by omega
   by_cases c0 : c < 0
   ·skip
    have HX := HVB.out 131 (by decide) (by unfold c0i; rw [show c0w 1 = 0 from rfl]; rw [if_neg (by omega), if_pos (by omega)])
    clear HVB HVO HI HR HR2
    go_enter Tryz.func77, Tryz.ntmps77
    go_wp2_with fail
    go_quiet (fail)
    go_wp2_with fail
    go_ret
    exact ⟨by rw [HX]; rfl, bd_ HB2.out _⟩
   by_cases cn : cores ≤ c
   ·skip
    have HX := HVB.out 131 (by decide) (by unfold c0i; rw [show c0w 1 = 0 from rfl]; rw [if_neg (by omega), if_pos (by omega)])
    clear HVB HVO HI HR HR2
    go_enter Tryz.func77, Tryz.ntmps77
    go_wp2_with fail
    go_quiet (fail)
    go_wp2_with fail
    go_ret
    exact ⟨by rw [HX]; rfl, bd_ HB2.out _⟩
   have HX := h_ (HVO.out (by unfold c0i; rw [show c0w 1 = 0 from rfl, if_neg (by omega), if_neg (by omega)]))
   clear HVB HVO
   go_enter Tryz.func77, Tryz.ntmps77
   generalize hW1 : (w.alloc (.cells #[.int .i64 1, .int .i64 c, .int .i64 r, .int .u64 (a : Nat), .int .u64 (v : Nat), .slice p 0 cap] 29)).alloc (.cells #[.int .i64 (-1), .int .i64 0, .int .i64 0, .int .i64 0, .int .i64 2, .int .i64 2, .int .i64 1, .int .i64 0] 3) = w1 at *
   have hsz : w.heap.size < w1.heap.size := by rw [← hW1]; first | (simp; done) | (simp; omega)
   have HW1 := h_ hW1
   clear hW1
   go_wp2_with fail
   go_quiet (fail)
   go_wp2_with fail
   go_loopw [6] (fun i wr => ∃ j : Nat, j ≤ 0 ∧ i = .int .i64 j ∧ b0p cores (args.take j) = 0 ∧ Below w1.heap.size w1 wr) (fun i _ => 0 - (intOf i).toNat)
   case atStart => exact ⟨0, by omega, rfl, by simp [b0p], by rw [HW1.out]; exact bd_ (Below.refl _ _) _⟩
   case round =>
    obtain ⟨j, hj, rfl, h0, hb⟩ := hrel
    have HBR := h_ hb
    have n5r := cell_below n5 hb
    clear hb
    by_cases hjl : j < 0
    ·exact absurd hjl (by omega)
    ·obtain rfl : j = 0 := by omega
     have HF := h_ (show R = 0 from by rw [HX.out]; have := h0; rwa [← HLEN.out, List.take_length] at this)
     go_wp2_with fail
     go_ret
     exact ⟨by rw [HF.out]; rfl, bt_ HB2.out HBR.out⟩
  ·obtain ⟨l1, l2, l3⟩ := lens _ hl
   clear lens
   have HX := HVB.out 1 (by decide) (by unfold c0i; rw [show c0w 1 = 0 from rfl]; rw [if_pos (by omega)])
   clear HVB HVO HI HR HR2
   go_enter Tryz.func77, Tryz.ntmps77
   go_wp2_with fail
   go_quiet (fail)
   go_wp2_with fail
   go_ret
   exact ⟨by rw [HX]; rfl, bd_ HB2.out _⟩
 by_cases k2 : k = 2
 ·subst k2
  by_cases hl : ln = 0
  ·clear lens
   subst hl
   have HX := h_ (HVO.out (by unfold c0i; rw [show c0w 2 = 0 from rfl, if_neg (by omega), if_neg (by omega)]))
   clear HVB HVO
   go_enter Tryz.func77, Tryz.ntmps77
   generalize hW1 : (w.alloc (.cells #[.int .i64 2, .int .i64 c, .int .i64 r, .int .u64 (a : Nat), .int .u64 (v : Nat), .slice p 0 cap] 29)).alloc (.cells #[.int .i64 (-1), .int .i64 0, .int .i64 0, .int .i64 0, .int .i64 2, .int .i64 2, .int .i64 1, .int .i64 0] 3) = w1 at *
   have hsz : w.heap.size < w1.heap.size := by rw [← hW1]; first | (simp; done) | (simp; omega)
   have HW1 := h_ hW1
   clear hW1
   go_wp2_with fail
   go_quiet (fail)
   go_wp2_with fail
   go_loopw [6] (fun i wr => ∃ j : Nat, j ≤ 0 ∧ i = .int .i64 j ∧ b0p cores (args.take j) = 0 ∧ Below w1.heap.size w1 wr) (fun i _ => 0 - (intOf i).toNat)
   case atStart => exact ⟨0, by omega, rfl, by simp [b0p], by rw [HW1.out]; exact bd_ (Below.refl _ _) _⟩
   case round =>
    obtain ⟨j, hj, rfl, h0, hb⟩ := hrel
    have HBR := h_ hb
    have n5r := cell_below n5 hb
    clear hb
    by_cases hjl : j < 0
    ·exact absurd hjl (by omega)
    ·obtain rfl : j = 0 := by omega
     have HF := h_ (show R = 0 from by rw [HX.out]; have := h0; rwa [← HLEN.out, List.take_length] at this)
     go_wp2_with fail
     go_ret
     exact ⟨by rw [HF.out]; rfl, bt_ HB2.out HBR.out⟩
  ·obtain ⟨l1, l2, l3⟩ := lens _ hl
   clear lens
   have HX := HVB.out 1 (by decide) (by unfold c0i; rw [show c0w 2 = 0 from rfl]; rw [if_pos (by omega)])
   clear HVB HVO HI HR HR2
   go_enter Tryz.func77, Tryz.ntmps77
   go_wp2_with fail
   go_quiet (fail)
   go_wp2_with fail
   go_ret
   exact ⟨by rw [HX]; rfl, bd_ HB2.out _⟩
 by_cases k3 : k = 3
 ·subst k3
  by_cases hl : ln = 0
  ·clear lens
   subst hl
   by_cases c0 : c < 0
   ·skip
    have HX := HVB.out 131 (by decide) (by unfold c0i; rw [show c0w 3 = 0 from rfl]; rw [if_neg (by omega), if_pos (by omega)])
    clear HVB HVO HI HR HR2
    go_enter Tryz.func77, Tryz.ntmps77
    go_wp2_with fail
    go_quiet (fail)
    go_wp2_with fail
    go_ret
    exact ⟨by rw [HX]; rfl, bd_ HB2.out _⟩
   by_cases cn : cores ≤ c
   ·skip
    have HX := HVB.out 131 (by decide) (by unfold c0i; rw [show c0w 3 = 0 from rfl]; rw [if_neg (by omega), if_pos (by omega)])
    clear HVB HVO HI HR HR2
    go_enter Tryz.func77, Tryz.ntmps77
    go_wp2_with fail
    go_quiet (fail)
    go_wp2_with fail
    go_ret
    exact ⟨by rw [HX]; rfl, bd_ HB2.out _⟩
   have HX := h_ (HVO.out (by unfold c0i; rw [show c0w 3 = 0 from rfl, if_neg (by omega), if_neg (by omega)]))
   clear HVB HVO
   go_enter Tryz.func77, Tryz.ntmps77
   generalize hW1 : (w.alloc (.cells #[.int .i64 3, .int .i64 c, .int .i64 r, .int .u64 (a : Nat), .int .u64 (v : Nat), .slice p 0 cap] 29)).alloc (.cells #[.int .i64 (-1), .int .i64 0, .int .i64 0, .int .i64 0, .int .i64 2, .int .i64 2, .int .i64 1, .int .i64 0] 3) = w1 at *
   have hsz : w.heap.size < w1.heap.size := by rw [← hW1]; first | (simp; done) | (simp; omega)
   have HW1 := h_ hW1
   clear hW1
   go_wp2_with fail
   go_quiet (fail)
   go_wp2_with fail
   go_loopw [6] (fun i wr => ∃ j : Nat, j ≤ 0 ∧ i = .int .i64 j ∧ b0p cores (args.take j) = 0 ∧ Below w1.heap.size w1 wr) (fun i _ => 0 - (intOf i).toNat)
   case atStart => exact ⟨0, by omega, rfl, by simp [b0p], by rw [HW1.out]; exact bd_ (Below.refl _ _) _⟩
   case round =>
    obtain ⟨j, hj, rfl, h0, hb⟩ := hrel
    have HBR := h_ hb
    have n5r := cell_below n5 hb
    clear hb
    by_cases hjl : j < 0
    ·exact absurd hjl (by omega)
    ·obtain rfl : j = 0 := by omega
     have HF := h_ (show R = 0 from by rw [HX.out]; have := h0; rwa [← HLEN.out, List.take_length] at this)
     go_wp2_with fail
     go_ret
     exact ⟨by rw [HF.out]; rfl, bt_ HB2.out HBR.out⟩
  ·obtain ⟨l1, l2, l3⟩ := lens _ hl
   clear lens
   have HX := HVB.out 1 (by decide) (by unfold c0i; rw [show c0w 3 = 0 from rfl]; rw [if_pos (by omega)])
   clear HVB HVO HI HR HR2
   go_enter Tryz.func77, Tryz.ntmps77
   go_wp2_with fail
   go_quiet (fail)
   go_wp2_with fail
   go_ret
   exact ⟨by rw [HX]; rfl, bd_ HB2.out _⟩
 by_cases k4 : k = 4
 ·subst k4
  by_cases hl : ln = 2
  ·clear lens
   subst hl
   have HX := h_ (HVO.out (by unfold c0i; rw [show c0w 4 = 2 from rfl, if_neg (by omega), if_neg (by omega)]))
   clear HVB HVO
   go_enter Tryz.func77, Tryz.ntmps77
   generalize hW1 : (w.alloc (.cells #[.int .i64 4, .int .i64 c, .int .i64 r, .int .u64 (a : Nat), .int .u64 (v : Nat), .slice p 2 cap] 29)).alloc (.cells #[.int .i64 (-1), .int .i64 0, .int .i64 0, .int .i64 0, .int .i64 2, .int .i64 2, .int .i64 1, .int .i64 0] 3) = w1 at *
   have hsz : w.heap.size < w1.heap.size := by rw [← hW1]; first | (simp; done) | (simp; omega)
   have HW1 := h_ hW1
   clear hW1
   go_wp2_with fail
   go_quiet (fail)
   go_wp2_with fail
   go_loopw [6] (fun i wr => ∃ j : Nat, j ≤ 2 ∧ i = .int .i64 j ∧ b0p cores (args.take j) = 0 ∧ Below w1.heap.size w1 wr) (fun i _ => 2 - (intOf i).toNat)
   case atStart => exact ⟨0, by omega, rfl, by simp [b0p], by rw [HW1.out]; exact bd_ (Below.refl _ _) _⟩
   case round =>
    obtain ⟨j, hj, rfl, h0, hb⟩ := hrel
    have HBR := h_ hb
    have n5r := cell_below n5 hb
    clear hb
    by_cases hjl : j < 2
    ·have hj0 : (0 : Int) ≤ j := by omega
     have hjn : (j : Int) < 2 := by omega
     have hja : j < args.length := by rw [HLEN.out]; exact hjl
     obtain ⟨g, off, k', co', rg', ad', va', q', l', cp', rfl, e0, e1, e2, e3, e4, e5, hu⟩ := (HR2.out.below HBR.out).part hja
     have HT := h_ (g0c cores args j hja h0)
     have HC := h_ (HI.out _ (List.getElem_mem hja) wr S _ hu)
     clear hu
     generalize args[j] = u at *
     go_wp2_with fail
     refine (HC.out).mono ?_
     rintro e w4 ⟨rfl, hb4⟩
     have HB4 := h_ (bt_ HBR.out hb4)
     clear hb4
     by_cases hz : a0w cores u = 0
     ·have HT2 := h_ (HT.out.1.trans hz)
      rw [hz]
      go_wp2_with fail
      go_roundw
      case rel => exact ⟨j + 1, by omega, by go_num, HT2.out, HB4.out⟩
      case measure => first | (simp [intOf]; omega) | simp [intOf]
     ·have HT2 := h_ (HT.out.2 hz)
      have hzb : (a0w cores u == 0) = false := by rw [beq_eq_false_iff_ne]; exact hz
      have hzb2 : (a0w cores u != 0) = true := by rw [bne_iff_ne]; exact hz
      clear HT
      generalize a0w cores u = X at *
      go_wp2_with fail
      go_ret
      exact ⟨by rw [HX.out, HT2.out]; rfl, bt_ HB2.out HB4.out⟩
    ·obtain rfl : j = 2 := by omega
     have HF := h_ (show R = 0 from by rw [HX.out]; have := h0; rwa [← HLEN.out, List.take_length] at this)
     go_wp2_with fail
     go_ret
     exact ⟨by rw [HF.out]; rfl, bt_ HB2.out HBR.out⟩
  ·obtain ⟨l1, l2, l3⟩ := lens _ hl
   clear lens
   have HX := HVB.out 1 (by decide) (by unfold c0i; rw [show c0w 4 = 2 from rfl]; rw [if_pos (by omega)])
   clear HVB HVO HI HR HR2
   go_enter Tryz.func77, Tryz.ntmps77
   go_wp2_with fail
   go_quiet (fail)
   go_wp2_with fail
   go_ret
   exact ⟨by rw [HX]; rfl, bd_ HB2.out _⟩
 by_cases k5 : k = 5
 ·subst k5
  by_cases hl : ln = 2
  ·clear lens
   subst hl
   have HX := h_ (HVO.out (by unfold c0i; rw [show c0w 5 = 2 from rfl, if_neg (by omega), if_neg (by omega)]))
   clear HVB HVO
   go_enter Tryz.func77, Tryz.ntmps77
   generalize hW1 : (w.alloc (.cells #[.int .i64 5, .int .i64 c, .int .i64 r, .int .u64 (a : Nat), .int .u64 (v : Nat), .slice p 2 cap] 29)).alloc (.cells #[.int .i64 (-1), .int .i64 0, .int .i64 0, .int .i64 0, .int .i64 2, .int .i64 2, .int .i64 1, .int .i64 0] 3) = w1 at *
   have hsz : w.heap.size < w1.heap.size := by rw [← hW1]; first | (simp; done) | (simp; omega)
   have HW1 := h_ hW1
   clear hW1
   go_wp2_with fail
   go_quiet (fail)
   go_wp2_with fail
   go_loopw [6] (fun i wr => ∃ j : Nat, j ≤ 2 ∧ i = .int .i64 j ∧ b0p cores (args.take j) = 0 ∧ Below w1.heap.size w1 wr) (fun i _ => 2 - (intOf i).toNat)
   case atStart => exact ⟨0, by omega, rfl, by simp [b0p], by rw [HW1.out]; exact bd_ (Below.refl _ _) _⟩
   case round =>
    obtain ⟨j, hj, rfl, h0, hb⟩ := hrel
    have HBR := h_ hb
    have n5r := cell_below n5 hb
    clear hb
    by_cases hjl : j < 2
    ·have hj0 : (0 : Int) ≤ j := by omega
     have hjn : (j : Int) < 2 := by omega
     have hja : j < args.length := by rw [HLEN.out]; exact hjl
     obtain ⟨g, off, k', co', rg', ad', va', q', l', cp', rfl, e0, e1, e2, e3, e4, e5, hu⟩ := (HR2.out.below HBR.out).part hja
     have HT := h_ (g0c cores args j hja h0)
     have HC := h_ (HI.out _ (List.getElem_mem hja) wr S _ hu)
     clear hu
     generalize args[j] = u at *
     go_wp2_with fail
     refine (HC.out).mono ?_
     rintro e w4 ⟨rfl, hb4⟩
     have HB4 := h_ (bt_ HBR.out hb4)
     clear hb4
     by_cases hz : a0w cores u = 0
     ·have HT2 := h_ (HT.out.1.trans hz)
      rw [hz]
      go_wp2_with fail
      go_roundw
      case rel => exact ⟨j + 1, by omega, by go_num, HT2.out, HB4.out⟩
      case measure => first | (simp [intOf]; omega) | simp [intOf]
     ·have HT2 := h_ (HT.out.2 hz)
      have hzb : (a0w cores u == 0) = false := by rw [beq_eq_false_iff_ne]; exact hz
      have hzb2 : (a0w cores u != 0) = true := by rw [bne_iff_ne]; exact hz
      clear HT
      generalize a0w cores u = X at *
      go_wp2_with fail
      go_ret
      exact ⟨by rw [HX.out, HT2.out]; rfl, bt_ HB2.out HB4.out⟩
    ·obtain rfl : j = 2 := by omega
     have HF := h_ (show R = 0 from by rw [HX.out]; have := h0; rwa [← HLEN.out, List.take_length] at this)
     go_wp2_with fail
     go_ret
     exact ⟨by rw [HF.out]; rfl, bt_ HB2.out HBR.out⟩
  ·obtain ⟨l1, l2, l3⟩ := lens _ hl
   clear lens
   have HX := HVB.out 1 (by decide) (by unfold c0i; rw [show c0w 5 = 2 from rfl]; rw [if_pos (by omega)])
   clear HVB HVO HI HR HR2
   go_enter Tryz.func77, Tryz.ntmps77
   go_wp2_with fail
   go_quiet (fail)
   go_wp2_with fail
   go_ret
   exact ⟨by rw [HX]; rfl, bd_ HB2.out _⟩
 by_cases k6 : k = 6
 ·subst k6
  by_cases hl : ln = 1
  ·clear lens
   subst hl
   have HX := h_ (HVO.out (by unfold c0i; rw [show c0w 6 = 1 from rfl, if_neg (by omega), if_neg (by omega)]))
   clear HVB HVO
   go_enter Tryz.func77, Tryz.ntmps77
   generalize hW1 : (w.alloc (.cells #[.int .i64 6, .int .i64 c, .int .i64 r, .int .u64 (a : Nat), .int .u64 (v : Nat), .slice p 1 cap] 29)).alloc (.cells #[.int .i64 (-1), .int .i64 0, .int .i64 0, .int .i64 0, .int .i64 2, .int .i64 2, .int .i64 1, .int .i64 0] 3) = w1 at *
   have hsz : w.heap.size < w1.heap.size := by rw [← hW1]; first | (simp; done) | (simp; omega)
   have HW1 := h_ hW1
   clear hW1
   go_wp2_with fail
   go_quiet (fail)
   go_wp2_with fail
   go_loopw [6] (fun i wr => ∃ j : Nat, j ≤ 1 ∧ i = .int .i64 j ∧ b0p cores (args.take j) = 0 ∧ Below w1.heap.size w1 wr) (fun i _ => 1 - (intOf i).toNat)
   case atStart => exact ⟨0, by omega, rfl, by simp [b0p], by rw [HW1.out]; exact bd_ (Below.refl _ _) _⟩
   case round =>
    obtain ⟨j, hj, rfl, h0, hb⟩ := hrel
    have HBR := h_ hb
    have n5r := cell_below n5 hb
    clear hb
    by_cases hjl : j < 1
    ·obtain rfl : j = 0 := by omega
     have hja : 0 < args.length := by rw [HLEN.out]; exact hjl
     obtain ⟨g, off, k', co', rg', ad', va', q', l', cp', rfl, e0, e1, e2, e3, e4, e5, hu⟩ := (HR2.out.below HBR.out).part hja
     simp only [Nat.zero_mul, Nat.add_zero] at e0 e1 e2 e3 e4 e5
     have HT := h_ (g0c cores args 0 hja h0)
     have HC := h_ (HI.out _ (List.getElem_mem hja) wr S _ hu)
     clear hu
     generalize args[0] = u at *
     go_wp2_with fail
     refine (HC.out).mono ?_
     rintro e w4 ⟨rfl, hb4⟩
     have HB4 := h_ (bt_ HBR.out hb4)
     clear hb4
     by_cases hz : a0w cores u = 0
     ·have HT2 := h_ (HT.out.1.trans hz)
      rw [hz]
      go_wp2_with fail
      go_roundw
      case rel => exact ⟨0 + 1, by omega, by go_num, HT2.out, HB4.out⟩
      case measure => first | (simp [intOf]; omega) | simp [intOf]
     ·have HT2 := h_ (HT.out.2 hz)
      have hzb : (a0w cores u == 0) = false := by rw [beq_eq_false_iff_ne]; exact hz
      have hzb2 : (a0w cores u != 0) = true := by rw [bne_iff_ne]; exact hz
      clear HT
      generalize a0w cores u = X at *
      go_wp2_with fail
      go_ret
      exact ⟨by rw [HX.out, HT2.out]; rfl, bt_ HB2.out HB4.out⟩
    ·obtain rfl : j = 1 := by omega
     have HF := h_ (show R = 0 from by rw [HX.out]; have := h0; rwa [← HLEN.out, List.take_length] at this)
     go_wp2_with fail
     go_ret
     exact ⟨by rw [HF.out]; rfl, bt_ HB2.out HBR.out⟩
  ·obtain ⟨l1, l2, l3⟩ := lens _ hl
   clear lens
   have HX := HVB.out 1 (by decide) (by unfold c0i; rw [show c0w 6 = 1 from rfl]; rw [if_pos (by omega)])
   clear HVB HVO HI HR HR2
   go_enter Tryz.func77, Tryz.ntmps77
   go_wp2_with fail
   go_quiet (fail)
   go_wp2_with fail
   go_ret
   exact ⟨by rw [HX]; rfl, bd_ HB2.out _⟩
 by_cases k7 : k = 7
 ·subst k7
  by_cases hl : ln = 0
  ·clear lens
   subst hl
   have HX := h_ (HVO.out (by unfold c0i; rw [show c0w 7 = 0 from rfl, if_neg (by omega), if_neg (by omega)]))
   clear HVB HVO
   go_enter Tryz.func77, Tryz.ntmps77
   generalize hW1 : (w.alloc (.cells #[.int .i64 7, .int .i64 c, .int .i64 r, .int .u64 (a : Nat), .int .u64 (v : Nat), .slice p 0 cap] 29)).alloc (.cells #[.int .i64 (-1), .int .i64 0, .int .i64 0, .int .i64 0, .int .i64 2, .int .i64 2, .int .i64 1, .int .i64 0] 3) = w1 at *
   have hsz : w.heap.size < w1.heap.size := by rw [← hW1]; first | (simp; done) | (simp; omega)
   have HW1 := h_ hW1
   clear hW1
   go_wp2_with fail
   go_quiet (fail)
   go_wp2_with fail
   go_loopw [6] (fun i wr => ∃ j : Nat, j ≤ 0 ∧ i = .int .i64 j ∧ b0p cores (args.take j) = 0 ∧ Below w1.heap.size w1 wr) (fun i _ => 0 - (intOf i).toNat)
   case atStart => exact ⟨0, by omega, rfl, by simp [b0p], by rw [HW1.out]; exact bd_ (Below.refl _ _) _⟩
   case round =>
    obtain ⟨j, hj, rfl, h0, hb⟩ := hrel
    have HBR := h_ hb
    have n5r := cell_below n5 hb
    clear hb
    by_cases hjl : j < 0
    ·exact absurd hjl (by omega)
    ·obtain rfl : j = 0 := by omega
     have HF := h_ (show R = 0 from by rw [HX.out]; have := h0; rwa [← HLEN.out, List.take_length] at this)
     go_wp2_with fail
     go_ret
     exact ⟨by rw [HF.out]; rfl, bt_ HB2.out HBR.out⟩
  ·obtain ⟨l1, l2, l3⟩ := lens _ hl
   clear lens
   have HX := HVB.out 1 (by decide) (by unfold c0i; rw [show c0w 7 = 0 from rfl]; rw [if_pos (by omega)])
   clear HVB HVO HI HR HR2
   go_enter Tryz.func77, Tryz.ntmps77
   go_wp2_with fail
   go_quiet (fail)
   go_wp2_with fail
   go_ret
   exact ⟨by rw [HX]; rfl, bd_ HB2.out _⟩
 by_cases ka : k < 1
 ·clear lens
  have HX := HVB.out 1 (by decide) (by unfold c0i; rw [if_pos (by omega)])
  clear HVB HVO HI HR HR2
  go_enter Tryz.func77, Tryz.ntmps77
  go_wp2_with fail
  go_quiet (fail)
  go_wp2_with fail
  go_ret
  exact ⟨by rw [HX]; rfl, bd_ HB2.out _⟩
 have kb : (7 : Int) < k := by omega
 have kad : decide (k < 1) = false := decide_eq_false ka
 clear lens
 have HX := HVB.out 1 (by decide) (by unfold c0i; rw [if_pos (by omega)])
 clear HVB HVO HI HR HR2
 go_enter Tryz.func77, Tryz.ntmps77
 go_wp2_with fail
 go_quiet (fail)
 go_wp2_with fail
 go_ret
 exact ⟨by rw [HX]; rfl, bd_ HB2.out _⟩
theorem b1v (cores : Int) (t : CT) (w : World) (S : Nat → Prop) (cs : List Value) (hc : a0k t ≤ 1000000000) (h : CT.At w S t cs) :
  Calls Tryz.prog 44 #[.agg cs.toArray, .int .i64 cores] w fun e w' => e = .returned (.int .i64 (g0w cores t)) ∧ Below w.heap.size w w' := by
 have HCn := h_ (fun w2 S2 cs2 (h2 : CT.At w2 S2 t cs2) => b1h t w2 S2 cs2 hc h2)
 have HRt := h_ (fun w2 S2 cs2 (h2 : CT.At w2 S2 t cs2) => a1s cores t w2 S2 cs2 h2)
 have HV := h_ (show g0w cores t = if 64 < a0k t then 120 else a0w cores t from rfl)
 have H0 := h_ h
 obtain ⟨k, c, r, a, v, args⟩ := t
 obtain ⟨p, cap, rfl, _⟩ := h.own
 have HB := h_ (show Below w.heap.size w (w.alloc (.cells #[.int .i64 k, .int .i64 c, .int .i64 r, .int .u64 (a : Nat), .int .u64 (v : Nat), .slice p args.length cap] 29)) from bl_ (Below.refl _ _) _)
 have HN := h_ (k0j w #[.int .i64 k, .int .i64 c, .int .i64 r, .int .u64 (a : Nat), .int .u64 (v : Nat), .slice p args.length cap])
 have H1 := h_ (H0.out.below HB.out)
 clear h H0
 generalize a0k (.mk k c r a v args) = N at *
 generalize a0w cores (.mk k c r a v args) = X at *
 have HC := h_ (HCn.out _ _ _ H1.out)
 go_enter Tryz.func44, Tryz.ntmps44
 go_wp2_with fail
 refine (HC.out).mono ?_
 rintro e w2 ⟨rfl, hb⟩
 have HB2 := h_ (bt_ HB.out hb)
 have HD := h_ (HRt.out _ _ _ (H1.out.below hb))
 obtain ⟨n0, n1, n2, n3, n4, n5⟩ := b0z (HN.out.below hb)
 clear hb HC
 by_cases hn : 64 < N
 ·have hni : (64 : Int) < N := by omega
  have HVV := h_ (HV.out.trans (if_pos hn))
  go_wp2_with fail
  go_ret
  exact ⟨by rw [HVV.out]; rfl, HB2.out⟩
 ·have hni : ¬ (64 : Int) < N := by omega
  have HVV := h_ (HV.out.trans (if_neg hn))
  go_wp2_with fail
  refine (HD.out).mono ?_
  rintro e w3 ⟨rfl, hb⟩
  have HB3 := h_ (bt_ HB2.out hb)
  clear hb
  go_wp2_with fail
  go_ret
  exact ⟨by rw [HVV.out]; rfl, HB3.out⟩
theorem b1u (cores : Int) (t : CT) (w : World) (S : Nat → Prop) (cs : List Value) (hc : a0k t ≤ 1000000000) (h : CT.At w S t cs) :
  Calls Tryz.prog 48 #[.agg cs.toArray, .int .i64 cores] w fun e w' => e = .returned (.int .i64 (g0w cores t)) ∧ Below w.heap.size w w' := by
 have HCn := h_ (fun w2 S2 cs2 (h2 : CT.At w2 S2 t cs2) => z0j t w2 S2 cs2 hc h2)
 have HRt := h_ (fun w2 S2 cs2 (h2 : CT.At w2 S2 t cs2) => z0e cores t w2 S2 cs2 h2)
 have HV := h_ (show g0w cores t = if 64 < a0k t then 120 else a0w cores t from rfl)
 have H0 := h_ h
 obtain ⟨k, c, r, a, v, args⟩ := t
 obtain ⟨p, cap, rfl, _⟩ := h.own
 have HB := h_ (show Below w.heap.size w (w.alloc (.cells #[.int .i64 k, .int .i64 c, .int .i64 r, .int .u64 (a : Nat), .int .u64 (v : Nat), .slice p args.length cap] 29)) from bl_ (Below.refl _ _) _)
 have HN := h_ (k0j w #[.int .i64 k, .int .i64 c, .int .i64 r, .int .u64 (a : Nat), .int .u64 (v : Nat), .slice p args.length cap])
 have H1 := h_ (H0.out.below HB.out)
 clear h H0
 generalize a0k (.mk k c r a v args) = N at *
 generalize a0w cores (.mk k c r a v args) = X at *
 have HC := h_ (HCn.out _ _ _ H1.out)
 go_enter Tryz.func48, Tryz.ntmps48
 go_wp2_with fail
 refine (HC.out).mono ?_
 rintro e w2 ⟨rfl, hb⟩
 have HB2 := h_ (bt_ HB.out hb)
 have HD := h_ (HRt.out _ _ _ (H1.out.below hb))
 obtain ⟨n0, n1, n2, n3, n4, n5⟩ := b0z (HN.out.below hb)
 clear hb HC
 by_cases hn : 64 < N
 ·have hni : (64 : Int) < N := by omega
  have HVV := h_ (HV.out.trans (if_pos hn))
  go_wp2_with fail
  go_ret
  exact ⟨by rw [HVV.out]; rfl, HB2.out⟩
 ·have hni : ¬ (64 : Int) < N := by omega
  have HVV := h_ (HV.out.trans (if_neg hn))
  go_wp2_with fail
  refine (HD.out).mono ?_
  rintro e w3 ⟨rfl, hb⟩
  have HB3 := h_ (bt_ HB2.out hb)
  clear hb
  go_wp2_with fail
  go_ret
  exact ⟨by rw [HVV.out]; rfl, HB3.out⟩
end
end Go.Proofs.YtmnojnopejhebaaGreat
