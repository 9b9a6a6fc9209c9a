/- Whether a condition may be: the walks. -/
import Derived.Test.YteepoohcdmjmhaaCondPrint
namespace Go.Proofs.Yteepoohcdmjmhaa
open Go.RowKit
set_option linter.unusedVariables false
set_option linter.unusedSimpArgs false

def wantN (k : Int) : Int := if k = 4 ∨ k = 5 then 2 else if k = 6 then 1 else 0
def headR (k c r cores : Int) (len : Nat) : Int :=
  if k < 1 ∨ 7 < k ∨ ¬ (len : Int) = wantN k ∨ (k = 1 ∧ (r < 0 ∨ 31 ≤ r)) then 1 else if (k = 1 ∨ k = 3) ∧ (c < 0 ∨ cores ≤ c) then 131 else 0
mutual
def rightT (cores : Int) : CT → Int
  | .mk k c r _ _ args => if headR k c r cores args.length = 0 then rightL cores args else headR k c r cores args.length
def rightL (cores : Int) : List CT → Int
  | [] => 0
  | t :: ts => if rightT cores t = 0 then rightL cores ts else rightT cores t
end
theorem rightL_append (cores : Int) : ∀ (a b : List CT), rightL cores (a ++ b) = if rightL cores a = 0 then rightL cores b else rightL cores a
  | [], b => by simp [rightL]
  | t :: a, b => by
    simp only [List.cons_append, rightL, rightL_append cores a b]
    by_cases h : rightT cores t = 0
    · simp [h]
    · simp [h]
theorem rightL_take (cores : Int) (l : List CT) (j : Nat) (hj : j < l.length) (h0 : rightL cores (l.take j) = 0) :
    rightL cores (l.take (j + 1)) = rightT cores l[j] ∧ (¬ rightT cores l[j] = 0 → rightL cores l = rightT cores l[j]) := by
  have e : rightL cores (l.take (j + 1)) = rightT cores l[j] := by
    rw [List.take_succ_eq_append_getElem hj, rightL_append, if_pos h0]
    simp only [rightL]
    split
    · rename_i h; exact h.symm
    · rfl
  refine ⟨e, fun h => ?_⟩
  have h2 := rightL_append cores (l.take (j + 1)) (l.drop (j + 1))
  rw [List.take_append_drop, e, if_neg h] at h2
  exact h2
theorem head_val (k c r cores : Int) (len : Nat) : headR k c r cores len = 0 ∨ headR k c r cores len = 1 ∨ headR k c r cores len = 131 := by
  unfold headR
  split
  · exact .inr (.inl rfl)
  · split
    · exact .inr (.inr rfl)
    · exact .inl rfl
set_option maxRecDepth 100000 in
set_option maxHeartbeats 6400000 in
theorem cright_any (cores : Int) : ∀ (t : CT) (w : World) (S : Nat → Prop) (cs : List Value), CT.At w S t cs →
    Calls Try.prog 41 #[.agg cs.toArray, .int .i64 cores] w fun e w' => e = .returned (.int .i64 (rightT cores t)) ∧ Below w.heap.size w w' := by
  intro t
  refine CT.ind (P := fun t => ∀ (w : World) (S : Nat → Prop) (cs : List Value), CT.At w S t cs → Calls Try.prog 41 #[.agg cs.toArray, .int .i64 cores] w fun e w' => e = .returned (.int .i64 (rightT cores t)) ∧ Below w.heap.size w w') ?_ t
  intro k c r a v args IH w S cs ht
  obtain ⟨p, cap, rfl, h1, h2, h3, h4, h5⟩ := ht.own
  have HI := Lib.hid IH
  have HVB := Lib.hid (show ∀ e : Int, ¬ e = 0 → headR k c r cores args.length = e → rightT cores (.mk k c r a v args) = e from fun e h0 he => by rw [rightT, he, if_neg h0])
  have HVO := Lib.hid (show headR k c r cores args.length = 0 → rightT cores (.mk k c r a v args) = rightL cores args from fun he => by rw [rightT, if_pos he])
  generalize rightT cores (.mk k c r a v args) = R at *
  generalize hlen : args.length = ln at *
  have HN := Lib.hid (own_box w #[.int .i64 k, .int .i64 c, .int .i64 r, .int .u64 (a : Nat), .int .u64 (v : Nat), .slice p ln cap])
  have HB := Lib.hid (show Below w.heap.size w (w.alloc (.cells #[.int .i64 k, .int .i64 c, .int .i64 r, .int .u64 (a : Nat), .int .u64 (v : Nat), .slice p ln cap] 25)) from below_alloc (Below.refl _ _) _)
  have HR := Lib.hid (h5.below HB.out)
  have hcap : cap ≤ 9223372036854775807 := by unfold maxLen at h2; omega
  have HLEN := Lib.hid hlen
  clear ht IH h5 h4 hlen
  obtain ⟨n0, n1, n2, n3, n4, n5⟩ := blk_cells6' HN.out
  have lens : ∀ x : Nat, ¬ ln = x → ¬ (ln : Int) = x ∧ ((ln : Int) == x) = false ∧ ((ln : Int) != x) = true := fun x h => ⟨by omega, by rw [beq_eq_false_iff_ne]; omega, by rw [bne_iff_ne]; omega⟩
  by_cases k1 : k = 1
  · subst k1
    by_cases r0 : r < 0
    · clear lens
      have HX := HVB.out 1 (by decide) (by unfold headR; rw [show wantN 1 = 0 from rfl]; rw [if_pos (by omega)])
      clear HVB HVO HI HR
      go_enter Try.func41, Try.ntmps41
      go_wp2_with fail
      go_ret
      exact ⟨rfl, HB.out⟩
    by_cases r31 : 31 ≤ r
    · clear lens
      have HX := HVB.out 1 (by decide) (by unfold headR; rw [show wantN 1 = 0 from rfl]; rw [if_pos (by omega)])
      clear HVB HVO HI HR
      go_enter Try.func41, Try.ntmps41
      go_wp2_with fail
      go_ret
      exact ⟨rfl, HB.out⟩
    by_cases hl : ln = 0
    · clear lens
      subst hl
      by_cases c0 : c < 0
      · skip
        have HX := HVB.out 131 (by decide) (by unfold headR; rw [show wantN 1 = 0 from rfl]; rw [if_neg (by omega), if_pos (by omega)])
        clear HVB HVO HI HR
        go_enter Try.func41, Try.ntmps41
        go_wp2_with fail
        go_ret
        exact ⟨rfl, HB.out⟩
      by_cases cn : cores ≤ c
      · skip
        have HX := HVB.out 131 (by decide) (by unfold headR; rw [show wantN 1 = 0 from rfl]; rw [if_neg (by omega), if_pos (by omega)])
        clear HVB HVO HI HR
        go_enter Try.func41, Try.ntmps41
        go_wp2_with fail
        go_ret
        exact ⟨rfl, HB.out⟩
      have HX := Lib.hid (HVO.out (by unfold headR; rw [show wantN 1 = 0 from rfl, if_neg (by omega), if_neg (by omega)]))
      clear HVB HVO
      go_enter Try.func41, Try.ntmps41
      generalize hW1 : w.alloc (.cells #[.int .i64 1, .int .i64 c, .int .i64 r, .int .u64 (a : Nat), .int .u64 (v : Nat), .slice p 0 cap] 25) = w1 at *
      have hsz : w.heap.size < w1.heap.size := by rw [← hW1]; first | (simp; done) | (simp; omega)
      have HW1 := Lib.hid hW1
      clear hW1
      go_wp2_with fail
      go_loopw [57] (fun i wr => ∃ j : Nat, j ≤ 0 ∧ i = .int .i64 j ∧ rightL cores (args.take j) = 0 ∧ Below w1.heap.size w1 wr) (fun i _ => 0 - (intOf i).toNat)
      case atStart => exact ⟨0, by omega, rfl, by simp [rightL], by rw [HW1.out]; exact Below.refl _ _⟩
      case round =>
        obtain ⟨j, hj, rfl, h0, hb⟩ := hrel
        have HBR := Lib.hid hb
        have n5r := cell_below n5 hb
        clear hb
        by_cases hjl : j < 0
        · exact absurd hjl (by omega)
        · obtain rfl : j = 0 := by omega
          have HF := Lib.hid (show R = 0 from by rw [HX.out]; have := h0; rwa [← HLEN.out, List.take_length] at this)
          go_wp2_with fail
          go_ret
          exact ⟨by rw [HF.out]; rfl, below_trans HB.out HBR.out⟩
    · obtain ⟨l1, l2, l3⟩ := lens _ hl
      clear lens
      have HX := HVB.out 1 (by decide) (by unfold headR; rw [show wantN 1 = 0 from rfl]; rw [if_pos (by omega)])
      clear HVB HVO HI HR
      go_enter Try.func41, Try.ntmps41
      go_wp2_with fail
      go_ret
      exact ⟨rfl, HB.out⟩
  have e1 : (k == 1) = false := by rw [beq_eq_false_iff_ne]; exact k1
  by_cases k2 : k = 2
  · subst k2
    by_cases hl : ln = 0
    · clear lens
      subst hl
      have HX := Lib.hid (HVO.out (by unfold headR; rw [show wantN 2 = 0 from rfl, if_neg (by omega), if_neg (by omega)]))
      clear HVB HVO
      go_enter Try.func41, Try.ntmps41
      generalize hW1 : w.alloc (.cells #[.int .i64 2, .int .i64 c, .int .i64 r, .int .u64 (a : Nat), .int .u64 (v : Nat), .slice p 0 cap] 25) = w1 at *
      have hsz : w.heap.size < w1.heap.size := by rw [← hW1]; first | (simp; done) | (simp; omega)
      have HW1 := Lib.hid hW1
      clear hW1
      go_wp2_with fail
      go_loopw [57] (fun i wr => ∃ j : Nat, j ≤ 0 ∧ i = .int .i64 j ∧ rightL cores (args.take j) = 0 ∧ Below w1.heap.size w1 wr) (fun i _ => 0 - (intOf i).toNat)
      case atStart => exact ⟨0, by omega, rfl, by simp [rightL], by rw [HW1.out]; exact Below.refl _ _⟩
      case round =>
        obtain ⟨j, hj, rfl, h0, hb⟩ := hrel
        have HBR := Lib.hid hb
        have n5r := cell_below n5 hb
        clear hb
        by_cases hjl : j < 0
        · exact absurd hjl (by omega)
        · obtain rfl : j = 0 := by omega
          have HF := Lib.hid (show R = 0 from by rw [HX.out]; have := h0; rwa [← HLEN.out, List.take_length] at this)
          go_wp2_with fail
          go_ret
          exact ⟨by rw [HF.out]; rfl, below_trans HB.out HBR.out⟩
    · obtain ⟨l1, l2, l3⟩ := lens _ hl
      clear lens
      have HX := HVB.out 1 (by decide) (by unfold headR; rw [show wantN 2 = 0 from rfl]; rw [if_pos (by omega)])
      clear HVB HVO HI HR
      go_enter Try.func41, Try.ntmps41
      go_wp2_with fail
      go_ret
      exact ⟨rfl, HB.out⟩
  have e2 : (k == 2) = false := by rw [beq_eq_false_iff_ne]; exact k2
  by_cases k3 : k = 3
  · subst k3
    by_cases hl : ln = 0
    · clear lens
      subst hl
      by_cases c0 : c < 0
      · skip
        have HX := HVB.out 131 (by decide) (by unfold headR; rw [show wantN 3 = 0 from rfl]; rw [if_neg (by omega), if_pos (by omega)])
        clear HVB HVO HI HR
        go_enter Try.func41, Try.ntmps41
        go_wp2_with fail
        go_ret
        exact ⟨rfl, HB.out⟩
      by_cases cn : cores ≤ c
      · skip
        have HX := HVB.out 131 (by decide) (by unfold headR; rw [show wantN 3 = 0 from rfl]; rw [if_neg (by omega), if_pos (by omega)])
        clear HVB HVO HI HR
        go_enter Try.func41, Try.ntmps41
        go_wp2_with fail
        go_ret
        exact ⟨rfl, HB.out⟩
      have HX := Lib.hid (HVO.out (by unfold headR; rw [show wantN 3 = 0 from rfl, if_neg (by omega), if_neg (by omega)]))
      clear HVB HVO
      go_enter Try.func41, Try.ntmps41
      generalize hW1 : w.alloc (.cells #[.int .i64 3, .int .i64 c, .int .i64 r, .int .u64 (a : Nat), .int .u64 (v : Nat), .slice p 0 cap] 25) = w1 at *
      have hsz : w.heap.size < w1.heap.size := by rw [← hW1]; first | (simp; done) | (simp; omega)
      have HW1 := Lib.hid hW1
      clear hW1
      go_wp2_with fail
      go_loopw [57] (fun i wr => ∃ j : Nat, j ≤ 0 ∧ i = .int .i64 j ∧ rightL cores (args.take j) = 0 ∧ Below w1.heap.size w1 wr) (fun i _ => 0 - (intOf i).toNat)
      case atStart => exact ⟨0, by omega, rfl, by simp [rightL], by rw [HW1.out]; exact Below.refl _ _⟩
      case round =>
        obtain ⟨j, hj, rfl, h0, hb⟩ := hrel
        have HBR := Lib.hid hb
        have n5r := cell_below n5 hb
        clear hb
        by_cases hjl : j < 0
        · exact absurd hjl (by omega)
        · obtain rfl : j = 0 := by omega
          have HF := Lib.hid (show R = 0 from by rw [HX.out]; have := h0; rwa [← HLEN.out, List.take_length] at this)
          go_wp2_with fail
          go_ret
          exact ⟨by rw [HF.out]; rfl, below_trans HB.out HBR.out⟩
    · obtain ⟨l1, l2, l3⟩ := lens _ hl
      clear lens
      have HX := HVB.out 1 (by decide) (by unfold headR; rw [show wantN 3 = 0 from rfl]; rw [if_pos (by omega)])
      clear HVB HVO HI HR
      go_enter Try.func41, Try.ntmps41
      go_wp2_with fail
      go_ret
      exact ⟨rfl, HB.out⟩
  have e3 : (k == 3) = false := by rw [beq_eq_false_iff_ne]; exact k3
  by_cases k4 : k = 4
  · subst k4
    by_cases hl : ln = 2
    · clear lens
      subst hl
      have HX := Lib.hid (HVO.out (by unfold headR; rw [show wantN 4 = 2 from rfl, if_neg (by omega), if_neg (by omega)]))
      clear HVB HVO
      go_enter Try.func41, Try.ntmps41
      generalize hW1 : w.alloc (.cells #[.int .i64 4, .int .i64 c, .int .i64 r, .int .u64 (a : Nat), .int .u64 (v : Nat), .slice p 2 cap] 25) = w1 at *
      have hsz : w.heap.size < w1.heap.size := by rw [← hW1]; first | (simp; done) | (simp; omega)
      have HW1 := Lib.hid hW1
      clear hW1
      go_wp2_with fail
      go_loopw [57] (fun i wr => ∃ j : Nat, j ≤ 2 ∧ i = .int .i64 j ∧ rightL cores (args.take j) = 0 ∧ Below w1.heap.size w1 wr) (fun i _ => 2 - (intOf i).toNat)
      case atStart => exact ⟨0, by omega, rfl, by simp [rightL], by rw [HW1.out]; exact Below.refl _ _⟩
      case round =>
        obtain ⟨j, hj, rfl, h0, hb⟩ := hrel
        have HBR := Lib.hid hb
        have n5r := cell_below n5 hb
        clear hb
        by_cases hjl : j < 2
        · have hj0 : (0 : Int) ≤ j := by omega
          have hjn : (j : Int) < 2 := by omega
          have hja : j < args.length := by rw [HLEN.out]; exact hjl
          obtain ⟨g, off, k', co', rg', ad', va', q', l', cp', rfl, e0, e1, e2, e3, e4, e5, hu⟩ := (HR.out.below HBR.out).part hja
          have HT := Lib.hid (rightL_take cores args j hja h0)
          have HBA := Lib.hid (below_alloc (Below.refl wr.heap.size wr) (.cells #[.int .i64 k', .int .i64 co', .int .i64 rg', .int .u64 ad', .int .u64 va', .slice q' l' cp'] 25))
          have HC := Lib.hid (HI.out _ (List.getElem_mem hja) _ S _ (hu.below HBA.out))
          clear hu
          generalize args[j] = u at *
          go_wp2_with fail
          refine (HC.out).mono ?_
          rintro e w4 ⟨rfl, hb4⟩
          have HB4 := Lib.hid (below_trans (below_trans HBR.out HBA.out) hb4)
          clear hb4
          by_cases hz : rightT cores u = 0
          · have HT2 := Lib.hid (HT.out.1.trans hz)
            rw [hz]
            go_wp2_with fail
            go_roundw
            case rel => exact ⟨j + 1, by omega, by go_num, HT2.out, HB4.out⟩
            case measure => first | (simp [intOf]; omega) | simp [intOf]
          · have HT2 := Lib.hid (HT.out.2 hz)
            have hzb : (rightT cores u == 0) = false := by rw [beq_eq_false_iff_ne]; exact hz
            have hzb2 : (rightT cores u != 0) = true := by rw [bne_iff_ne]; exact hz
            clear HT
            generalize rightT cores u = X at *
            go_wp2_with fail
            go_ret
            exact ⟨by rw [HX.out, HT2.out]; rfl, below_trans HB.out HB4.out⟩
        · obtain rfl : j = 2 := by omega
          have HF := Lib.hid (show R = 0 from by rw [HX.out]; have := h0; rwa [← HLEN.out, List.take_length] at this)
          go_wp2_with fail
          go_ret
          exact ⟨by rw [HF.out]; rfl, below_trans HB.out HBR.out⟩
    · obtain ⟨l1, l2, l3⟩ := lens _ hl
      clear lens
      have HX := HVB.out 1 (by decide) (by unfold headR; rw [show wantN 4 = 2 from rfl]; rw [if_pos (by omega)])
      clear HVB HVO HI HR
      go_enter Try.func41, Try.ntmps41
      go_wp2_with fail
      go_ret
      exact ⟨rfl, HB.out⟩
  have e4 : (k == 4) = false := by rw [beq_eq_false_iff_ne]; exact k4
  by_cases k5 : k = 5
  · subst k5
    by_cases hl : ln = 2
    · clear lens
      subst hl
      have HX := Lib.hid (HVO.out (by unfold headR; rw [show wantN 5 = 2 from rfl, if_neg (by omega), if_neg (by omega)]))
      clear HVB HVO
      go_enter Try.func41, Try.ntmps41
      generalize hW1 : w.alloc (.cells #[.int .i64 5, .int .i64 c, .int .i64 r, .int .u64 (a : Nat), .int .u64 (v : Nat), .slice p 2 cap] 25) = w1 at *
      have hsz : w.heap.size < w1.heap.size := by rw [← hW1]; first | (simp; done) | (simp; omega)
      have HW1 := Lib.hid hW1
      clear hW1
      go_wp2_with fail
      go_loopw [57] (fun i wr => ∃ j : Nat, j ≤ 2 ∧ i = .int .i64 j ∧ rightL cores (args.take j) = 0 ∧ Below w1.heap.size w1 wr) (fun i _ => 2 - (intOf i).toNat)
      case atStart => exact ⟨0, by omega, rfl, by simp [rightL], by rw [HW1.out]; exact Below.refl _ _⟩
      case round =>
        obtain ⟨j, hj, rfl, h0, hb⟩ := hrel
        have HBR := Lib.hid hb
        have n5r := cell_below n5 hb
        clear hb
        by_cases hjl : j < 2
        · have hj0 : (0 : Int) ≤ j := by omega
          have hjn : (j : Int) < 2 := by omega
          have hja : j < args.length := by rw [HLEN.out]; exact hjl
          obtain ⟨g, off, k', co', rg', ad', va', q', l', cp', rfl, e0, e1, e2, e3, e4, e5, hu⟩ := (HR.out.below HBR.out).part hja
          have HT := Lib.hid (rightL_take cores args j hja h0)
          have HBA := Lib.hid (below_alloc (Below.refl wr.heap.size wr) (.cells #[.int .i64 k', .int .i64 co', .int .i64 rg', .int .u64 ad', .int .u64 va', .slice q' l' cp'] 25))
          have HC := Lib.hid (HI.out _ (List.getElem_mem hja) _ S _ (hu.below HBA.out))
          clear hu
          generalize args[j] = u at *
          go_wp2_with fail
          refine (HC.out).mono ?_
          rintro e w4 ⟨rfl, hb4⟩
          have HB4 := Lib.hid (below_trans (below_trans HBR.out HBA.out) hb4)
          clear hb4
          by_cases hz : rightT cores u = 0
          · have HT2 := Lib.hid (HT.out.1.trans hz)
            rw [hz]
            go_wp2_with fail
            go_roundw
            case rel => exact ⟨j + 1, by omega, by go_num, HT2.out, HB4.out⟩
            case measure => first | (simp [intOf]; omega) | simp [intOf]
          · have HT2 := Lib.hid (HT.out.2 hz)
            have hzb : (rightT cores u == 0) = false := by rw [beq_eq_false_iff_ne]; exact hz
            have hzb2 : (rightT cores u != 0) = true := by rw [bne_iff_ne]; exact hz
            clear HT
            generalize rightT cores u = X at *
            go_wp2_with fail
            go_ret
            exact ⟨by rw [HX.out, HT2.out]; rfl, below_trans HB.out HB4.out⟩
        · obtain rfl : j = 2 := by omega
          have HF := Lib.hid (show R = 0 from by rw [HX.out]; have := h0; rwa [← HLEN.out, List.take_length] at this)
          go_wp2_with fail
          go_ret
          exact ⟨by rw [HF.out]; rfl, below_trans HB.out HBR.out⟩
    · obtain ⟨l1, l2, l3⟩ := lens _ hl
      clear lens
      have HX := HVB.out 1 (by decide) (by unfold headR; rw [show wantN 5 = 2 from rfl]; rw [if_pos (by omega)])
      clear HVB HVO HI HR
      go_enter Try.func41, Try.ntmps41
      go_wp2_with fail
      go_ret
      exact ⟨rfl, HB.out⟩
  have e5 : (k == 5) = false := by rw [beq_eq_false_iff_ne]; exact k5
  by_cases k6 : k = 6
  · subst k6
    by_cases hl : ln = 1
    · clear lens
      subst hl
      have HX := Lib.hid (HVO.out (by unfold headR; rw [show wantN 6 = 1 from rfl, if_neg (by omega), if_neg (by omega)]))
      clear HVB HVO
      go_enter Try.func41, Try.ntmps41
      generalize hW1 : w.alloc (.cells #[.int .i64 6, .int .i64 c, .int .i64 r, .int .u64 (a : Nat), .int .u64 (v : Nat), .slice p 1 cap] 25) = w1 at *
      have hsz : w.heap.size < w1.heap.size := by rw [← hW1]; first | (simp; done) | (simp; omega)
      have HW1 := Lib.hid hW1
      clear hW1
      go_wp2_with fail
      go_loopw [57] (fun i wr => ∃ j : Nat, j ≤ 1 ∧ i = .int .i64 j ∧ rightL cores (args.take j) = 0 ∧ Below w1.heap.size w1 wr) (fun i _ => 1 - (intOf i).toNat)
      case atStart => exact ⟨0, by omega, rfl, by simp [rightL], by rw [HW1.out]; exact Below.refl _ _⟩
      case round =>
        obtain ⟨j, hj, rfl, h0, hb⟩ := hrel
        have HBR := Lib.hid hb
        have n5r := cell_below n5 hb
        clear hb
        by_cases hjl : j < 1
        · obtain rfl : j = 0 := by omega
          have hja : 0 < args.length := by rw [HLEN.out]; exact hjl
          obtain ⟨g, off, k', co', rg', ad', va', q', l', cp', rfl, e0, e1, e2, e3, e4, e5, hu⟩ := (HR.out.below HBR.out).part hja
          simp only [Nat.zero_mul, Nat.add_zero] at e0 e1 e2 e3 e4 e5
          have HT := Lib.hid (rightL_take cores args 0 hja h0)
          have HBA := Lib.hid (below_alloc (Below.refl wr.heap.size wr) (.cells #[.int .i64 k', .int .i64 co', .int .i64 rg', .int .u64 ad', .int .u64 va', .slice q' l' cp'] 25))
          have HC := Lib.hid (HI.out _ (List.getElem_mem hja) _ S _ (hu.below HBA.out))
          clear hu
          generalize args[0] = u at *
          go_wp2_with fail
          refine (HC.out).mono ?_
          rintro e w4 ⟨rfl, hb4⟩
          have HB4 := Lib.hid (below_trans (below_trans HBR.out HBA.out) hb4)
          clear hb4
          by_cases hz : rightT cores u = 0
          · have HT2 := Lib.hid (HT.out.1.trans hz)
            rw [hz]
            go_wp2_with fail
            go_roundw
            case rel => exact ⟨0 + 1, by omega, by go_num, HT2.out, HB4.out⟩
            case measure => first | (simp [intOf]; omega) | simp [intOf]
          · have HT2 := Lib.hid (HT.out.2 hz)
            have hzb : (rightT cores u == 0) = false := by rw [beq_eq_false_iff_ne]; exact hz
            have hzb2 : (rightT cores u != 0) = true := by rw [bne_iff_ne]; exact hz
            clear HT
            generalize rightT cores u = X at *
            go_wp2_with fail
            go_ret
            exact ⟨by rw [HX.out, HT2.out]; rfl, below_trans HB.out HB4.out⟩
        · obtain rfl : j = 1 := by omega
          have HF := Lib.hid (show R = 0 from by rw [HX.out]; have := h0; rwa [← HLEN.out, List.take_length] at this)
          go_wp2_with fail
          go_ret
          exact ⟨by rw [HF.out]; rfl, below_trans HB.out HBR.out⟩
    · obtain ⟨l1, l2, l3⟩ := lens _ hl
      clear lens
      have HX := HVB.out 1 (by decide) (by unfold headR; rw [show wantN 6 = 1 from rfl]; rw [if_pos (by omega)])
      clear HVB HVO HI HR
      go_enter Try.func41, Try.ntmps41
      go_wp2_with fail
      go_ret
      exact ⟨rfl, HB.out⟩
  have e6 : (k == 6) = false := by rw [beq_eq_false_iff_ne]; exact k6
  by_cases k7 : k = 7
  · subst k7
    by_cases hl : ln = 0
    · clear lens
      subst hl
      have HX := Lib.hid (HVO.out (by unfold headR; rw [show wantN 7 = 0 from rfl, if_neg (by omega), if_neg (by omega)]))
      clear HVB HVO
      go_enter Try.func41, Try.ntmps41
      generalize hW1 : w.alloc (.cells #[.int .i64 7, .int .i64 c, .int .i64 r, .int .u64 (a : Nat), .int .u64 (v : Nat), .slice p 0 cap] 25) = w1 at *
      have hsz : w.heap.size < w1.heap.size := by rw [← hW1]; first | (simp; done) | (simp; omega)
      have HW1 := Lib.hid hW1
      clear hW1
      go_wp2_with fail
      go_loopw [57] (fun i wr => ∃ j : Nat, j ≤ 0 ∧ i = .int .i64 j ∧ rightL cores (args.take j) = 0 ∧ Below w1.heap.size w1 wr) (fun i _ => 0 - (intOf i).toNat)
      case atStart => exact ⟨0, by omega, rfl, by simp [rightL], by rw [HW1.out]; exact Below.refl _ _⟩
      case round =>
        obtain ⟨j, hj, rfl, h0, hb⟩ := hrel
        have HBR := Lib.hid hb
        have n5r := cell_below n5 hb
        clear hb
        by_cases hjl : j < 0
        · exact absurd hjl (by omega)
        · obtain rfl : j = 0 := by omega
          have HF := Lib.hid (show R = 0 from by rw [HX.out]; have := h0; rwa [← HLEN.out, List.take_length] at this)
          go_wp2_with fail
          go_ret
          exact ⟨by rw [HF.out]; rfl, below_trans HB.out HBR.out⟩
    · obtain ⟨l1, l2, l3⟩ := lens _ hl
      clear lens
      have HX := HVB.out 1 (by decide) (by unfold headR; rw [show wantN 7 = 0 from rfl]; rw [if_pos (by omega)])
      clear HVB HVO HI HR
      go_enter Try.func41, Try.ntmps41
      go_wp2_with fail
      go_ret
      exact ⟨rfl, HB.out⟩
  have e7 : (k == 7) = false := by rw [beq_eq_false_iff_ne]; exact k7
  clear lens
  have HX := HVB.out 1 (by decide) (by unfold headR; rw [if_pos (by omega)])
  clear HVB HVO HI HR
  go_enter Try.func41, Try.ntmps41
  go_wp2_with fail
  go_ret
  exact ⟨rfl, HB.out⟩
set_option maxRecDepth 100000 in
set_option maxHeartbeats 6400000 in
theorem rright_any (cores : Int) : ∀ (t : CT) (w : World) (S : Nat → Prop) (cs : List Value), CT.At w S t cs →
    Calls Try.prog 25 #[.agg cs.toArray, .int .i64 cores] w fun e w' => e = .returned (.int .i64 (rightT cores t)) ∧ Below w.heap.size w w' := by
  intro t
  refine CT.ind (P := fun t => ∀ (w : World) (S : Nat → Prop) (cs : List Value), CT.At w S t cs → Calls Try.prog 25 #[.agg cs.toArray, .int .i64 cores] w fun e w' => e = .returned (.int .i64 (rightT cores t)) ∧ Below w.heap.size w w') ?_ t
  intro k c r a v args IH w S cs ht
  obtain ⟨p, cap, rfl, h1, h2, h3, h4, h5⟩ := ht.own
  have HI := Lib.hid IH
  have HVB := Lib.hid (show ∀ e : Int, ¬ e = 0 → headR k c r cores args.length = e → rightT cores (.mk k c r a v args) = e from fun e h0 he => by rw [rightT, he, if_neg h0])
  have HVO := Lib.hid (show headR k c r cores args.length = 0 → rightT cores (.mk k c r a v args) = rightL cores args from fun he => by rw [rightT, if_pos he])
  generalize rightT cores (.mk k c r a v args) = R at *
  generalize hlen : args.length = ln at *
  have HN := Lib.hid (own_box w #[.int .i64 k, .int .i64 c, .int .i64 r, .int .u64 (a : Nat), .int .u64 (v : Nat), .slice p ln cap])
  have HB := Lib.hid (show Below w.heap.size w (w.alloc (.cells #[.int .i64 k, .int .i64 c, .int .i64 r, .int .u64 (a : Nat), .int .u64 (v : Nat), .slice p ln cap] 25)) from below_alloc (Below.refl _ _) _)
  have HR := Lib.hid (h5.below HB.out)
  have hcap : cap ≤ 9223372036854775807 := by unfold maxLen at h2; omega
  have HLEN := Lib.hid hlen
  clear ht IH h5 h4 hlen
  obtain ⟨n0, n1, n2, n3, n4, n5⟩ := blk_cells6' HN.out
  have HB2 := Lib.hid (below_trans HB.out (below_alloc (Below.refl _ _) (.cells #[.int .i64 (-1), .int .i64 0, .int .i64 0, .int .i64 0, .int .i64 2, .int .i64 2, .int .i64 1, .int .i64 0] 3)))
  have HR2 := Lib.hid (HR.out.below (below_alloc (Below.refl _ _) (.cells #[.int .i64 (-1), .int .i64 0, .int .i64 0, .int .i64 0, .int .i64 2, .int .i64 2, .int .i64 1, .int .i64 0] 3)))
  have HN2 := Lib.hid (HN.out.below (below_alloc (Below.refl _ _) (.cells #[.int .i64 (-1), .int .i64 0, .int .i64 0, .int .i64 0, .int .i64 2, .int .i64 2, .int .i64 1, .int .i64 0] 3)))
  have lens : ∀ x : Nat, ¬ ln = x → ¬ (ln : Int) = x ∧ ((ln : Int) == x) = false ∧ ((ln : Int) != x) = true := fun x h => ⟨by omega, by rw [beq_eq_false_iff_ne]; omega, by rw [bne_iff_ne]; omega⟩
  clear n0 n1 n2 n3 n4 n5
  obtain ⟨n0, n1, n2, n3, n4, n5⟩ := blk_cells6' HN2.out
  by_cases k1 : k = 1
  · subst k1
    by_cases hl : ln = 0
    · clear lens
      subst hl
      by_cases r0 : r < 0
      · skip
        have HX := HVB.out 1 (by decide) (by unfold headR; rw [show wantN 1 = 0 from rfl]; rw [if_pos (by omega)])
        clear HVB HVO HI HR HR2
        go_enter Try.func25, Try.ntmps25
        go_wp2_with fail
        go_quiet (fail)
        go_wp2_with fail
        go_ret
        exact ⟨by rw [HX]; rfl, below_drewN HB2.out _⟩
      by_cases r31 : 31 ≤ r
      · have r30 : (30 : Int) < r := by omega
        have HX := HVB.out 1 (by decide) (by unfold headR; rw [show wantN 1 = 0 from rfl]; rw [if_pos (by omega)])
        clear HVB HVO HI HR HR2
        go_enter Try.func25, Try.ntmps25
        go_wp2_with fail
        go_quiet (fail)
        go_wp2_with fail
        go_ret
        exact ⟨by rw [HX]; rfl, below_drewN HB2.out _⟩
      have r30 : ¬ (30 : Int) < r := by omega
      by_cases c0 : c < 0
      · skip
        have HX := HVB.out 131 (by decide) (by unfold headR; rw [show wantN 1 = 0 from rfl]; rw [if_neg (by omega), if_pos (by omega)])
        clear HVB HVO HI HR HR2
        go_enter Try.func25, Try.ntmps25
        go_wp2_with fail
        go_quiet (fail)
        go_wp2_with fail
        go_ret
        exact ⟨by rw [HX]; rfl, below_drewN HB2.out _⟩
      by_cases cn : cores ≤ c
      · skip
        have HX := HVB.out 131 (by decide) (by unfold headR; rw [show wantN 1 = 0 from rfl]; rw [if_neg (by omega), if_pos (by omega)])
        clear HVB HVO HI HR HR2
        go_enter Try.func25, Try.ntmps25
        go_wp2_with fail
        go_quiet (fail)
        go_wp2_with fail
        go_ret
        exact ⟨by rw [HX]; rfl, below_drewN HB2.out _⟩
      have HX := Lib.hid (HVO.out (by unfold headR; rw [show wantN 1 = 0 from rfl, if_neg (by omega), if_neg (by omega)]))
      clear HVB HVO
      go_enter Try.func25, Try.ntmps25
      generalize hW1 : (w.alloc (.cells #[.int .i64 1, .int .i64 c, .int .i64 r, .int .u64 (a : Nat), .int .u64 (v : Nat), .slice p 0 cap] 25)).alloc (.cells #[.int .i64 (-1), .int .i64 0, .int .i64 0, .int .i64 0, .int .i64 2, .int .i64 2, .int .i64 1, .int .i64 0] 3) = w1 at *
      have hsz : w.heap.size < w1.heap.size := by rw [← hW1]; first | (simp; done) | (simp; omega)
      have HW1 := Lib.hid hW1
      clear hW1
      go_wp2_with fail
      go_quiet (fail)
      go_wp2_with fail
      go_loopw [6] (fun i wr => ∃ j : Nat, j ≤ 0 ∧ i = .int .i64 j ∧ rightL cores (args.take j) = 0 ∧ Below w1.heap.size w1 wr) (fun i _ => 0 - (intOf i).toNat)
      case atStart => exact ⟨0, by omega, rfl, by simp [rightL], by rw [HW1.out]; exact below_drewN (Below.refl _ _) _⟩
      case round =>
        obtain ⟨j, hj, rfl, h0, hb⟩ := hrel
        have HBR := Lib.hid hb
        have n5r := cell_below n5 hb
        clear hb
        by_cases hjl : j < 0
        · exact absurd hjl (by omega)
        · obtain rfl : j = 0 := by omega
          have HF := Lib.hid (show R = 0 from by rw [HX.out]; have := h0; rwa [← HLEN.out, List.take_length] at this)
          go_wp2_with fail
          go_ret
          exact ⟨by rw [HF.out]; rfl, below_trans HB2.out HBR.out⟩
    · obtain ⟨l1, l2, l3⟩ := lens _ hl
      clear lens
      have HX := HVB.out 1 (by decide) (by unfold headR; rw [show wantN 1 = 0 from rfl]; rw [if_pos (by omega)])
      clear HVB HVO HI HR HR2
      go_enter Try.func25, Try.ntmps25
      go_wp2_with fail
      go_quiet (fail)
      go_wp2_with fail
      go_ret
      exact ⟨by rw [HX]; rfl, below_drewN HB2.out _⟩
  by_cases k2 : k = 2
  · subst k2
    by_cases hl : ln = 0
    · clear lens
      subst hl
      have HX := Lib.hid (HVO.out (by unfold headR; rw [show wantN 2 = 0 from rfl, if_neg (by omega), if_neg (by omega)]))
      clear HVB HVO
      go_enter Try.func25, Try.ntmps25
      generalize hW1 : (w.alloc (.cells #[.int .i64 2, .int .i64 c, .int .i64 r, .int .u64 (a : Nat), .int .u64 (v : Nat), .slice p 0 cap] 25)).alloc (.cells #[.int .i64 (-1), .int .i64 0, .int .i64 0, .int .i64 0, .int .i64 2, .int .i64 2, .int .i64 1, .int .i64 0] 3) = w1 at *
      have hsz : w.heap.size < w1.heap.size := by rw [← hW1]; first | (simp; done) | (simp; omega)
      have HW1 := Lib.hid hW1
      clear hW1
      go_wp2_with fail
      go_quiet (fail)
      go_wp2_with fail
      go_loopw [6] (fun i wr => ∃ j : Nat, j ≤ 0 ∧ i = .int .i64 j ∧ rightL cores (args.take j) = 0 ∧ Below w1.heap.size w1 wr) (fun i _ => 0 - (intOf i).toNat)
      case atStart => exact ⟨0, by omega, rfl, by simp [rightL], by rw [HW1.out]; exact below_drewN (Below.refl _ _) _⟩
      case round =>
        obtain ⟨j, hj, rfl, h0, hb⟩ := hrel
        have HBR := Lib.hid hb
        have n5r := cell_below n5 hb
        clear hb
        by_cases hjl : j < 0
        · exact absurd hjl (by omega)
        · obtain rfl : j = 0 := by omega
          have HF := Lib.hid (show R = 0 from by rw [HX.out]; have := h0; rwa [← HLEN.out, List.take_length] at this)
          go_wp2_with fail
          go_ret
          exact ⟨by rw [HF.out]; rfl, below_trans HB2.out HBR.out⟩
    · obtain ⟨l1, l2, l3⟩ := lens _ hl
      clear lens
      have HX := HVB.out 1 (by decide) (by unfold headR; rw [show wantN 2 = 0 from rfl]; rw [if_pos (by omega)])
      clear HVB HVO HI HR HR2
      go_enter Try.func25, Try.ntmps25
      go_wp2_with fail
      go_quiet (fail)
      go_wp2_with fail
      go_ret
      exact ⟨by rw [HX]; rfl, below_drewN HB2.out _⟩
  by_cases k3 : k = 3
  · subst k3
    by_cases hl : ln = 0
    · clear lens
      subst hl
      by_cases c0 : c < 0
      · skip
        have HX := HVB.out 131 (by decide) (by unfold headR; rw [show wantN 3 = 0 from rfl]; rw [if_neg (by omega), if_pos (by omega)])
        clear HVB HVO HI HR HR2
        go_enter Try.func25, Try.ntmps25
        go_wp2_with fail
        go_quiet (fail)
        go_wp2_with fail
        go_ret
        exact ⟨by rw [HX]; rfl, below_drewN HB2.out _⟩
      by_cases cn : cores ≤ c
      · skip
        have HX := HVB.out 131 (by decide) (by unfold headR; rw [show wantN 3 = 0 from rfl]; rw [if_neg (by omega), if_pos (by omega)])
        clear HVB HVO HI HR HR2
        go_enter Try.func25, Try.ntmps25
        go_wp2_with fail
        go_quiet (fail)
        go_wp2_with fail
        go_ret
        exact ⟨by rw [HX]; rfl, below_drewN HB2.out _⟩
      have HX := Lib.hid (HVO.out (by unfold headR; rw [show wantN 3 = 0 from rfl, if_neg (by omega), if_neg (by omega)]))
      clear HVB HVO
      go_enter Try.func25, Try.ntmps25
      generalize hW1 : (w.alloc (.cells #[.int .i64 3, .int .i64 c, .int .i64 r, .int .u64 (a : Nat), .int .u64 (v : Nat), .slice p 0 cap] 25)).alloc (.cells #[.int .i64 (-1), .int .i64 0, .int .i64 0, .int .i64 0, .int .i64 2, .int .i64 2, .int .i64 1, .int .i64 0] 3) = w1 at *
      have hsz : w.heap.size < w1.heap.size := by rw [← hW1]; first | (simp; done) | (simp; omega)
      have HW1 := Lib.hid hW1
      clear hW1
      go_wp2_with fail
      go_quiet (fail)
      go_wp2_with fail
      go_loopw [6] (fun i wr => ∃ j : Nat, j ≤ 0 ∧ i = .int .i64 j ∧ rightL cores (args.take j) = 0 ∧ Below w1.heap.size w1 wr) (fun i _ => 0 - (intOf i).toNat)
      case atStart => exact ⟨0, by omega, rfl, by simp [rightL], by rw [HW1.out]; exact below_drewN (Below.refl _ _) _⟩
      case round =>
        obtain ⟨j, hj, rfl, h0, hb⟩ := hrel
        have HBR := Lib.hid hb
        have n5r := cell_below n5 hb
        clear hb
        by_cases hjl : j < 0
        · exact absurd hjl (by omega)
        · obtain rfl : j = 0 := by omega
          have HF := Lib.hid (show R = 0 from by rw [HX.out]; have := h0; rwa [← HLEN.out, List.take_length] at this)
          go_wp2_with fail
          go_ret
          exact ⟨by rw [HF.out]; rfl, below_trans HB2.out HBR.out⟩
    · obtain ⟨l1, l2, l3⟩ := lens _ hl
      clear lens
      have HX := HVB.out 1 (by decide) (by unfold headR; rw [show wantN 3 = 0 from rfl]; rw [if_pos (by omega)])
      clear HVB HVO HI HR HR2
      go_enter Try.func25, Try.ntmps25
      go_wp2_with fail
      go_quiet (fail)
      go_wp2_with fail
      go_ret
      exact ⟨by rw [HX]; rfl, below_drewN HB2.out _⟩
  by_cases k4 : k = 4
  · subst k4
    by_cases hl : ln = 2
    · clear lens
      subst hl
      have HX := Lib.hid (HVO.out (by unfold headR; rw [show wantN 4 = 2 from rfl, if_neg (by omega), if_neg (by omega)]))
      clear HVB HVO
      go_enter Try.func25, Try.ntmps25
      generalize hW1 : (w.alloc (.cells #[.int .i64 4, .int .i64 c, .int .i64 r, .int .u64 (a : Nat), .int .u64 (v : Nat), .slice p 2 cap] 25)).alloc (.cells #[.int .i64 (-1), .int .i64 0, .int .i64 0, .int .i64 0, .int .i64 2, .int .i64 2, .int .i64 1, .int .i64 0] 3) = w1 at *
      have hsz : w.heap.size < w1.heap.size := by rw [← hW1]; first | (simp; done) | (simp; omega)
      have HW1 := Lib.hid hW1
      clear hW1
      go_wp2_with fail
      go_quiet (fail)
      go_wp2_with fail
      go_loopw [6] (fun i wr => ∃ j : Nat, j ≤ 2 ∧ i = .int .i64 j ∧ rightL cores (args.take j) = 0 ∧ Below w1.heap.size w1 wr) (fun i _ => 2 - (intOf i).toNat)
      case atStart => exact ⟨0, by omega, rfl, by simp [rightL], by rw [HW1.out]; exact below_drewN (Below.refl _ _) _⟩
      case round =>
        obtain ⟨j, hj, rfl, h0, hb⟩ := hrel
        have HBR := Lib.hid hb
        have n5r := cell_below n5 hb
        clear hb
        by_cases hjl : j < 2
        · have hj0 : (0 : Int) ≤ j := by omega
          have hjn : (j : Int) < 2 := by omega
          have hja : j < args.length := by rw [HLEN.out]; exact hjl
          obtain ⟨g, off, k', co', rg', ad', va', q', l', cp', rfl, e0, e1, e2, e3, e4, e5, hu⟩ := (HR2.out.below HBR.out).part hja
          have HT := Lib.hid (rightL_take cores args j hja h0)
          have HC := Lib.hid (HI.out _ (List.getElem_mem hja) wr S _ hu)
          clear hu
          generalize args[j] = u at *
          go_wp2_with fail
          refine (HC.out).mono ?_
          rintro e w4 ⟨rfl, hb4⟩
          have HB4 := Lib.hid (below_trans HBR.out hb4)
          clear hb4
          by_cases hz : rightT cores u = 0
          · have HT2 := Lib.hid (HT.out.1.trans hz)
            rw [hz]
            go_wp2_with fail
            go_roundw
            case rel => exact ⟨j + 1, by omega, by go_num, HT2.out, HB4.out⟩
            case measure => first | (simp [intOf]; omega) | simp [intOf]
          · have HT2 := Lib.hid (HT.out.2 hz)
            have hzb : (rightT cores u == 0) = false := by rw [beq_eq_false_iff_ne]; exact hz
            have hzb2 : (rightT cores u != 0) = true := by rw [bne_iff_ne]; exact hz
            clear HT
            generalize rightT cores u = X at *
            go_wp2_with fail
            go_ret
            exact ⟨by rw [HX.out, HT2.out]; rfl, below_trans HB2.out HB4.out⟩
        · obtain rfl : j = 2 := by omega
          have HF := Lib.hid (show R = 0 from by rw [HX.out]; have := h0; rwa [← HLEN.out, List.take_length] at this)
          go_wp2_with fail
          go_ret
          exact ⟨by rw [HF.out]; rfl, below_trans HB2.out HBR.out⟩
    · obtain ⟨l1, l2, l3⟩ := lens _ hl
      clear lens
      have HX := HVB.out 1 (by decide) (by unfold headR; rw [show wantN 4 = 2 from rfl]; rw [if_pos (by omega)])
      clear HVB HVO HI HR HR2
      go_enter Try.func25, Try.ntmps25
      go_wp2_with fail
      go_quiet (fail)
      go_wp2_with fail
      go_ret
      exact ⟨by rw [HX]; rfl, below_drewN HB2.out _⟩
  by_cases k5 : k = 5
  · subst k5
    by_cases hl : ln = 2
    · clear lens
      subst hl
      have HX := Lib.hid (HVO.out (by unfold headR; rw [show wantN 5 = 2 from rfl, if_neg (by omega), if_neg (by omega)]))
      clear HVB HVO
      go_enter Try.func25, Try.ntmps25
      generalize hW1 : (w.alloc (.cells #[.int .i64 5, .int .i64 c, .int .i64 r, .int .u64 (a : Nat), .int .u64 (v : Nat), .slice p 2 cap] 25)).alloc (.cells #[.int .i64 (-1), .int .i64 0, .int .i64 0, .int .i64 0, .int .i64 2, .int .i64 2, .int .i64 1, .int .i64 0] 3) = w1 at *
      have hsz : w.heap.size < w1.heap.size := by rw [← hW1]; first | (simp; done) | (simp; omega)
      have HW1 := Lib.hid hW1
      clear hW1
      go_wp2_with fail
      go_quiet (fail)
      go_wp2_with fail
      go_loopw [6] (fun i wr => ∃ j : Nat, j ≤ 2 ∧ i = .int .i64 j ∧ rightL cores (args.take j) = 0 ∧ Below w1.heap.size w1 wr) (fun i _ => 2 - (intOf i).toNat)
      case atStart => exact ⟨0, by omega, rfl, by simp [rightL], by rw [HW1.out]; exact below_drewN (Below.refl _ _) _⟩
      case round =>
        obtain ⟨j, hj, rfl, h0, hb⟩ := hrel
        have HBR := Lib.hid hb
        have n5r := cell_below n5 hb
        clear hb
        by_cases hjl : j < 2
        · have hj0 : (0 : Int) ≤ j := by omega
          have hjn : (j : Int) < 2 := by omega
          have hja : j < args.length := by rw [HLEN.out]; exact hjl
          obtain ⟨g, off, k', co', rg', ad', va', q', l', cp', rfl, e0, e1, e2, e3, e4, e5, hu⟩ := (HR2.out.below HBR.out).part hja
          have HT := Lib.hid (rightL_take cores args j hja h0)
          have HC := Lib.hid (HI.out _ (List.getElem_mem hja) wr S _ hu)
          clear hu
          generalize args[j] = u at *
          go_wp2_with fail
          refine (HC.out).mono ?_
          rintro e w4 ⟨rfl, hb4⟩
          have HB4 := Lib.hid (below_trans HBR.out hb4)
          clear hb4
          by_cases hz : rightT cores u = 0
          · have HT2 := Lib.hid (HT.out.1.trans hz)
            rw [hz]
            go_wp2_with fail
            go_roundw
            case rel => exact ⟨j + 1, by omega, by go_num, HT2.out, HB4.out⟩
            case measure => first | (simp [intOf]; omega) | simp [intOf]
          · have HT2 := Lib.hid (HT.out.2 hz)
            have hzb : (rightT cores u == 0) = false := by rw [beq_eq_false_iff_ne]; exact hz
            have hzb2 : (rightT cores u != 0) = true := by rw [bne_iff_ne]; exact hz
            clear HT
            generalize rightT cores u = X at *
            go_wp2_with fail
            go_ret
            exact ⟨by rw [HX.out, HT2.out]; rfl, below_trans HB2.out HB4.out⟩
        · obtain rfl : j = 2 := by omega
          have HF := Lib.hid (show R = 0 from by rw [HX.out]; have := h0; rwa [← HLEN.out, List.take_length] at this)
          go_wp2_with fail
          go_ret
          exact ⟨by rw [HF.out]; rfl, below_trans HB2.out HBR.out⟩
    · obtain ⟨l1, l2, l3⟩ := lens _ hl
      clear lens
      have HX := HVB.out 1 (by decide) (by unfold headR; rw [show wantN 5 = 2 from rfl]; rw [if_pos (by omega)])
      clear HVB HVO HI HR HR2
      go_enter Try.func25, Try.ntmps25
      go_wp2_with fail
      go_quiet (fail)
      go_wp2_with fail
      go_ret
      exact ⟨by rw [HX]; rfl, below_drewN HB2.out _⟩
  by_cases k6 : k = 6
  · subst k6
    by_cases hl : ln = 1
    · clear lens
      subst hl
      have HX := Lib.hid (HVO.out (by unfold headR; rw [show wantN 6 = 1 from rfl, if_neg (by omega), if_neg (by omega)]))
      clear HVB HVO
      go_enter Try.func25, Try.ntmps25
      generalize hW1 : (w.alloc (.cells #[.int .i64 6, .int .i64 c, .int .i64 r, .int .u64 (a : Nat), .int .u64 (v : Nat), .slice p 1 cap] 25)).alloc (.cells #[.int .i64 (-1), .int .i64 0, .int .i64 0, .int .i64 0, .int .i64 2, .int .i64 2, .int .i64 1, .int .i64 0] 3) = w1 at *
      have hsz : w.heap.size < w1.heap.size := by rw [← hW1]; first | (simp; done) | (simp; omega)
      have HW1 := Lib.hid hW1
      clear hW1
      go_wp2_with fail
      go_quiet (fail)
      go_wp2_with fail
      go_loopw [6] (fun i wr => ∃ j : Nat, j ≤ 1 ∧ i = .int .i64 j ∧ rightL cores (args.take j) = 0 ∧ Below w1.heap.size w1 wr) (fun i _ => 1 - (intOf i).toNat)
      case atStart => exact ⟨0, by omega, rfl, by simp [rightL], by rw [HW1.out]; exact below_drewN (Below.refl _ _) _⟩
      case round =>
        obtain ⟨j, hj, rfl, h0, hb⟩ := hrel
        have HBR := Lib.hid hb
        have n5r := cell_below n5 hb
        clear hb
        by_cases hjl : j < 1
        · obtain rfl : j = 0 := by omega
          have hja : 0 < args.length := by rw [HLEN.out]; exact hjl
          obtain ⟨g, off, k', co', rg', ad', va', q', l', cp', rfl, e0, e1, e2, e3, e4, e5, hu⟩ := (HR2.out.below HBR.out).part hja
          simp only [Nat.zero_mul, Nat.add_zero] at e0 e1 e2 e3 e4 e5
          have HT := Lib.hid (rightL_take cores args 0 hja h0)
          have HC := Lib.hid (HI.out _ (List.getElem_mem hja) wr S _ hu)
          clear hu
          generalize args[0] = u at *
          go_wp2_with fail
          refine (HC.out).mono ?_
          rintro e w4 ⟨rfl, hb4⟩
          have HB4 := Lib.hid (below_trans HBR.out hb4)
          clear hb4
          by_cases hz : rightT cores u = 0
          · have HT2 := Lib.hid (HT.out.1.trans hz)
            rw [hz]
            go_wp2_with fail
            go_roundw
            case rel => exact ⟨0 + 1, by omega, by go_num, HT2.out, HB4.out⟩
            case measure => first | (simp [intOf]; omega) | simp [intOf]
          · have HT2 := Lib.hid (HT.out.2 hz)
            have hzb : (rightT cores u == 0) = false := by rw [beq_eq_false_iff_ne]; exact hz
            have hzb2 : (rightT cores u != 0) = true := by rw [bne_iff_ne]; exact hz
            clear HT
            generalize rightT cores u = X at *
            go_wp2_with fail
            go_ret
            exact ⟨by rw [HX.out, HT2.out]; rfl, below_trans HB2.out HB4.out⟩
        · obtain rfl : j = 1 := by omega
          have HF := Lib.hid (show R = 0 from by rw [HX.out]; have := h0; rwa [← HLEN.out, List.take_length] at this)
          go_wp2_with fail
          go_ret
          exact ⟨by rw [HF.out]; rfl, below_trans HB2.out HBR.out⟩
    · obtain ⟨l1, l2, l3⟩ := lens _ hl
      clear lens
      have HX := HVB.out 1 (by decide) (by unfold headR; rw [show wantN 6 = 1 from rfl]; rw [if_pos (by omega)])
      clear HVB HVO HI HR HR2
      go_enter Try.func25, Try.ntmps25
      go_wp2_with fail
      go_quiet (fail)
      go_wp2_with fail
      go_ret
      exact ⟨by rw [HX]; rfl, below_drewN HB2.out _⟩
  by_cases k7 : k = 7
  · subst k7
    by_cases hl : ln = 0
    · clear lens
      subst hl
      have HX := Lib.hid (HVO.out (by unfold headR; rw [show wantN 7 = 0 from rfl, if_neg (by omega), if_neg (by omega)]))
      clear HVB HVO
      go_enter Try.func25, Try.ntmps25
      generalize hW1 : (w.alloc (.cells #[.int .i64 7, .int .i64 c, .int .i64 r, .int .u64 (a : Nat), .int .u64 (v : Nat), .slice p 0 cap] 25)).alloc (.cells #[.int .i64 (-1), .int .i64 0, .int .i64 0, .int .i64 0, .int .i64 2, .int .i64 2, .int .i64 1, .int .i64 0] 3) = w1 at *
      have hsz : w.heap.size < w1.heap.size := by rw [← hW1]; first | (simp; done) | (simp; omega)
      have HW1 := Lib.hid hW1
      clear hW1
      go_wp2_with fail
      go_quiet (fail)
      go_wp2_with fail
      go_loopw [6] (fun i wr => ∃ j : Nat, j ≤ 0 ∧ i = .int .i64 j ∧ rightL cores (args.take j) = 0 ∧ Below w1.heap.size w1 wr) (fun i _ => 0 - (intOf i).toNat)
      case atStart => exact ⟨0, by omega, rfl, by simp [rightL], by rw [HW1.out]; exact below_drewN (Below.refl _ _) _⟩
      case round =>
        obtain ⟨j, hj, rfl, h0, hb⟩ := hrel
        have HBR := Lib.hid hb
        have n5r := cell_below n5 hb
        clear hb
        by_cases hjl : j < 0
        · exact absurd hjl (by omega)
        · obtain rfl : j = 0 := by omega
          have HF := Lib.hid (show R = 0 from by rw [HX.out]; have := h0; rwa [← HLEN.out, List.take_length] at this)
          go_wp2_with fail
          go_ret
          exact ⟨by rw [HF.out]; rfl, below_trans HB2.out HBR.out⟩
    · obtain ⟨l1, l2, l3⟩ := lens _ hl
      clear lens
      have HX := HVB.out 1 (by decide) (by unfold headR; rw [show wantN 7 = 0 from rfl]; rw [if_pos (by omega)])
      clear HVB HVO HI HR HR2
      go_enter Try.func25, Try.ntmps25
      go_wp2_with fail
      go_quiet (fail)
      go_wp2_with fail
      go_ret
      exact ⟨by rw [HX]; rfl, below_drewN HB2.out _⟩
  by_cases ka : k < 1
  · clear lens
    have HX := HVB.out 1 (by decide) (by unfold headR; rw [if_pos (by omega)])
    clear HVB HVO HI HR HR2
    go_enter Try.func25, Try.ntmps25
    go_wp2_with fail
    go_quiet (fail)
    go_wp2_with fail
    go_ret
    exact ⟨by rw [HX]; rfl, below_drewN HB2.out _⟩
  have kb : (7 : Int) < k := by omega
  have kad : decide (k < 1) = false := decide_eq_false ka
  clear lens
  have HX := HVB.out 1 (by decide) (by unfold headR; rw [if_pos (by omega)])
  clear HVB HVO HI HR HR2
  go_enter Try.func25, Try.ntmps25
  go_wp2_with fail
  go_quiet (fail)
  go_wp2_with fail
  go_ret
  exact ⟨by rw [HX]; rfl, below_drewN HB2.out _⟩
def RightT (cores : Int) (t : CT) : Int := if 64 < countT t then 120 else rightT cores t
set_option maxRecDepth 100000 in
set_option maxHeartbeats 1600000 in
theorem CRight_any (cores : Int) (t : CT) (w : World) (S : Nat → Prop) (cs : List Value) (hc : countT t ≤ 1000000000) (h : CT.At w S t cs) :
    Calls Try.prog 22 #[.agg cs.toArray, .int .i64 cores] w fun e w' => e = .returned (.int .i64 (RightT cores t)) ∧ Below w.heap.size w w' := by
  have HCn := Lib.hid (fun w2 S2 cs2 (h2 : CT.At w2 S2 t cs2) => ccount_any t w2 S2 cs2 hc h2)
  have HRt := Lib.hid (fun w2 S2 cs2 (h2 : CT.At w2 S2 t cs2) => cright_any cores t w2 S2 cs2 h2)
  have HV := Lib.hid (show RightT cores t = if 64 < countT t then 120 else rightT cores t from rfl)
  have H0 := Lib.hid h
  obtain ⟨k, c, r, a, v, args⟩ := t
  obtain ⟨p, cap, rfl, _⟩ := h.own
  have HB := Lib.hid (show Below w.heap.size w (w.alloc (.cells #[.int .i64 k, .int .i64 c, .int .i64 r, .int .u64 (a : Nat), .int .u64 (v : Nat), .slice p args.length cap] 25)) from below_alloc (Below.refl _ _) _)
  have HN := Lib.hid (own_box w #[.int .i64 k, .int .i64 c, .int .i64 r, .int .u64 (a : Nat), .int .u64 (v : Nat), .slice p args.length cap])
  have H1 := Lib.hid (H0.out.below HB.out)
  clear h H0
  generalize countT (.mk k c r a v args) = N at *
  generalize rightT cores (.mk k c r a v args) = X at *
  have HC := Lib.hid (HCn.out _ _ _ H1.out)
  go_enter Try.func22, Try.ntmps22
  go_wp2_with fail
  refine (HC.out).mono ?_
  rintro e w2 ⟨rfl, hb⟩
  have HB2 := Lib.hid (below_trans HB.out hb)
  have HD := Lib.hid (HRt.out _ _ _ (H1.out.below hb))
  obtain ⟨n0, n1, n2, n3, n4, n5⟩ := blk_cells6' (HN.out.below hb)
  clear hb HC
  by_cases hn : 64 < N
  · have hni : (64 : Int) < N := by omega
    have HVV := Lib.hid (HV.out.trans (if_pos hn))
    go_wp2_with fail
    go_ret
    exact ⟨by rw [HVV.out]; rfl, HB2.out⟩
  · have hni : ¬ (64 : Int) < N := by omega
    have HVV := Lib.hid (HV.out.trans (if_neg hn))
    go_wp2_with fail
    refine (HD.out).mono ?_
    rintro e w3 ⟨rfl, hb⟩
    have HB3 := Lib.hid (below_trans HB2.out hb)
    clear hb
    go_wp2_with fail
    go_ret
    exact ⟨by rw [HVV.out]; rfl, HB3.out⟩
set_option maxRecDepth 100000 in
set_option maxHeartbeats 1600000 in
theorem RRight_any (cores : Int) (t : CT) (w : World) (S : Nat → Prop) (cs : List Value) (hc : countT t ≤ 1000000000) (h : CT.At w S t cs) :
    Calls Try.prog 10 #[.agg cs.toArray, .int .i64 cores] w fun e w' => e = .returned (.int .i64 (RightT cores t)) ∧ Below w.heap.size w w' := by
  have HCn := Lib.hid (fun w2 S2 cs2 (h2 : CT.At w2 S2 t cs2) => rcount_any t w2 S2 cs2 hc h2)
  have HRt := Lib.hid (fun w2 S2 cs2 (h2 : CT.At w2 S2 t cs2) => rright_any cores t w2 S2 cs2 h2)
  have HV := Lib.hid (show RightT cores t = if 64 < countT t then 120 else rightT cores t from rfl)
  have H0 := Lib.hid h
  obtain ⟨k, c, r, a, v, args⟩ := t
  obtain ⟨p, cap, rfl, _⟩ := h.own
  have HB := Lib.hid (show Below w.heap.size w (w.alloc (.cells #[.int .i64 k, .int .i64 c, .int .i64 r, .int .u64 (a : Nat), .int .u64 (v : Nat), .slice p args.length cap] 25)) from below_alloc (Below.refl _ _) _)
  have HN := Lib.hid (own_box w #[.int .i64 k, .int .i64 c, .int .i64 r, .int .u64 (a : Nat), .int .u64 (v : Nat), .slice p args.length cap])
  have H1 := Lib.hid (H0.out.below HB.out)
  clear h H0
  generalize countT (.mk k c r a v args) = N at *
  generalize rightT cores (.mk k c r a v args) = X at *
  have HC := Lib.hid (HCn.out _ _ _ H1.out)
  go_enter Try.func10, Try.ntmps10
  go_wp2_with fail
  refine (HC.out).mono ?_
  rintro e w2 ⟨rfl, hb⟩
  have HB2 := Lib.hid (below_trans HB.out hb)
  have HD := Lib.hid (HRt.out _ _ _ (H1.out.below hb))
  obtain ⟨n0, n1, n2, n3, n4, n5⟩ := blk_cells6' (HN.out.below hb)
  clear hb HC
  by_cases hn : 64 < N
  · have hni : (64 : Int) < N := by omega
    have HVV := Lib.hid (HV.out.trans (if_pos hn))
    go_wp2_with fail
    go_ret
    exact ⟨by rw [HVV.out]; rfl, HB2.out⟩
  · have hni : ¬ (64 : Int) < N := by omega
    have HVV := Lib.hid (HV.out.trans (if_neg hn))
    go_wp2_with fail
    refine (HD.out).mono ?_
    rintro e w3 ⟨rfl, hb⟩
    have HB3 := Lib.hid (below_trans HB2.out hb)
    clear hb
    go_wp2_with fail
    go_ret
    exact ⟨by rw [HVV.out]; rfl, HB3.out⟩
end Go.Proofs.Yteepoohcdmjmhaa
