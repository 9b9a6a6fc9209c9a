/- Union and Minus of the reference. -/
import Derived.Test.YtmiajpoclgdhbaaDoorRelFill
import Derived.Test.YtmiajpoclgdhbaaDoorRelClosP
namespace Go.Proofs.YtmiajpoclgdhbaaDoor
open Go.RowKit
set_option linter.unusedVariables false

set_option maxRecDepth 100000 in
set_option maxHeartbeats 400000 in
theorem tunion_any (t u n : Nat) (T U : Nat → Nat → Bool) (w : World) (h : TabAt w t n T) (h2 : TabAt w u n U) (hn : n ≤ 1000) :
    Calls Tryd.prog 46 #[.slice (some ⟨t, 0, none⟩) n n, .slice (some ⟨u, 0, none⟩) n n] w fun e w' => e = .returned (.slice (some ⟨w.heap.size, 0, none⟩) n n) ∧ TabAt w' w.heap.size n (tUnion T U) ∧ Below w.heap.size w w' := by
  have HTA := Lib.hid h
  have HUA := Lib.hid h2
  have HEM := Lib.hid (empty_any n w hn)
  clear h h2
  go_enter Tryd.func46, Tryd.ntmps46
  go_wp2_with fail
  refine (HEM.out).mono ?_
  rintro e w1 ⟨rfl, hu, hb, hz⟩
  have HO := Lib.hid (show TabAt w1 w.heap.size n (fillTo (tUnion T U) 0 0) from by rw [fill_zero]; exact hu)
  have HB := Lib.hid hb
  clear hu hb hz HEM
  go_wp2_with fail
  go_loopw [6] (fun i wr => ∃ k : Nat, k ≤ n ∧ i = .int .i64 k ∧ TabAt wr w.heap.size n (fillTo (tUnion T U) k 0) ∧ Below w.heap.size w wr) (fun i _ => n - (intOf i).toNat)
  case atStart => exact ⟨0, by omega, rfl, HO.out, HB.out⟩
  case round =>
    clear HO HB
    obtain ⟨i, hi, rfl, hO, hB⟩ := hrel
    obtain ⟨wo, rfl⟩ : ∃ wo : World, wo = wr := ⟨_, rfl⟩
    by_cases hil : i < n
    · have HO := Lib.hid hO
      have HB := Lib.hid hB
      have hi0 : (0 : Int) ≤ i := by omega
      have hii : (i : Int) < n := by omega
      clear hO hB
      go_wp2_with fail
      go_loopw [7] (fun q wr => ∃ k : Nat, k ≤ n ∧ q = .int .i64 k ∧ TabAt wr w.heap.size n (fillTo (tUnion T U) i k) ∧ Below w.heap.size w wr) (fun q _ => n - (intOf q).toNat)
      case atStart => exact ⟨0, by omega, rfl, HO.out, HB.out⟩
      case round =>
        clear HO HB
        obtain ⟨k, hk, rfl, hO, hB⟩ := hrel
        obtain ⟨wk, rfl⟩ : ∃ wk : World, wk = wr := ⟨_, rfl⟩
        by_cases hkl : k < n
        · have hk0 : (0 : Int) ≤ k := by omega
          have hki : (k : Int) < n := by omega
          have hta := HTA.out.keep hB
          have hua := HUA.out.keep hB
          have t0 := hta.outer hil
          have t1 := hta.mark hil hkl
          have u0 := hua.outer hil
          have u1 := hua.mark hil hkl
          have o0 := hO.outer hil
          have o1 := hO.mark hil hkl
          have of_ := hO.free hil k
          have HFILL := Lib.hid (fun v (hv : tUnion T U i k = v) => hO.fill hil v hv)
          have HD := Lib.hid (show tUnion T U i k = (T i k || U i k) from rfl)
          have HBS := Lib.hid (fun v => hB.setCell (p := ⟨w.heap.size + 1 + i, k, none⟩) (by simp; omega) (.bool v))
          clear hta hua hO hB
          generalize fillTo (tUnion T U) i k i k = old at *
          generalize tUnion T U i k = z at *
          generalize T i k = x at *
          generalize U i k = y at *
          cases x
          · have HF := Lib.hid (HFILL.out y (by rw [HD.out]; rfl))
            clear HFILL HD
            go_wp2_with fail
            refine region_tail 22 (by kernel_rfl) (by kernel_rfl) ?_
            simp only [List.take_succ_cons, List.take_zero, List.drop_succ_cons, List.drop_zero]
            repeat still_step
            refine wpStill_nil ?_
            go_wp2_with fail
            go_roundw
            case rel => exact ⟨k + 1, by omega, by go_num, HF.out, below_drewN (HBS.out _) 1⟩
            case measure => simp [intOf]; omega
          · have HF := Lib.hid (HFILL.out true (by rw [HD.out]; rfl))
            clear HFILL HD
            go_wp2_with fail
            refine region_tail 22 (by kernel_rfl) (by kernel_rfl) ?_
            simp only [List.take_succ_cons, List.take_zero, List.drop_succ_cons, List.drop_zero]
            iterate 13 still_step
            iterate 7 (with_reducible refine wpStill_skip ?_ ?_; · kernel_rfl
                       simp only [Act.put, List.setIfInBounds_toArray, List.set_cons_zero, List.set_cons_succ])
            repeat (with_reducible refine wpStill_step (fun K hK => ?_)
                    go_simp
                    refine hK _ ?_
                    clear hK K)
            refine wpStill_nil ?_
            go_wp2_with fail
            go_roundw
            case rel => exact ⟨k + 1, by omega, by go_num, HF.out, below_drewN (HBS.out _) 1⟩
            case measure => simp [intOf]; omega
        · obtain rfl : k = n := by omega
          have HO := Lib.hid hO.fillNext
          have HB := Lib.hid hB
          clear hO hB
          go_wp2_with fail
          go_roundw
          case rel => exact ⟨i + 1, by omega, by go_num, HO.out, HB.out⟩
          case measure => simp [intOf]; omega
    · obtain rfl : i = n := by omega
      have HO := Lib.hid hO.filled
      have HB := Lib.hid hB
      clear hO hB
      go_wp2_with fail
      go_ret
      exact ⟨rfl, HO.out, HB.out⟩
set_option maxRecDepth 100000 in
set_option maxHeartbeats 400000 in
theorem tminus_any (t u n : Nat) (T U : Nat → Nat → Bool) (w : World) (h : TabAt w t n T) (h2 : TabAt w u n U) (hn : n ≤ 1000) :
    Calls Tryd.prog 47 #[.slice (some ⟨t, 0, none⟩) n n, .slice (some ⟨u, 0, none⟩) n n] w fun e w' => e = .returned (.slice (some ⟨w.heap.size, 0, none⟩) n n) ∧ TabAt w' w.heap.size n (tMinus T U) ∧ Below w.heap.size w w' := by
  have HTA := Lib.hid h
  have HUA := Lib.hid h2
  have HEM := Lib.hid (empty_any n w hn)
  clear h h2
  go_enter Tryd.func47, Tryd.ntmps47
  go_wp2_with fail
  refine (HEM.out).mono ?_
  rintro e w1 ⟨rfl, hu, hb, hz⟩
  have HO := Lib.hid (show TabAt w1 w.heap.size n (fillTo (tMinus T U) 0 0) from by rw [fill_zero]; exact hu)
  have HB := Lib.hid hb
  clear hu hb hz HEM
  go_wp2_with fail
  go_loopw [6] (fun i wr => ∃ k : Nat, k ≤ n ∧ i = .int .i64 k ∧ TabAt wr w.heap.size n (fillTo (tMinus T U) k 0) ∧ Below w.heap.size w wr) (fun i _ => n - (intOf i).toNat)
  case atStart => exact ⟨0, by omega, rfl, HO.out, HB.out⟩
  case round =>
    clear HO HB
    obtain ⟨i, hi, rfl, hO, hB⟩ := hrel
    obtain ⟨wo, rfl⟩ : ∃ wo : World, wo = wr := ⟨_, rfl⟩
    by_cases hil : i < n
    · have HO := Lib.hid hO
      have HB := Lib.hid hB
      have hi0 : (0 : Int) ≤ i := by omega
      have hii : (i : Int) < n := by omega
      clear hO hB
      go_wp2_with fail
      go_loopw [7] (fun q wr => ∃ k : Nat, k ≤ n ∧ q = .int .i64 k ∧ TabAt wr w.heap.size n (fillTo (tMinus T U) i k) ∧ Below w.heap.size w wr) (fun q _ => n - (intOf q).toNat)
      case atStart => exact ⟨0, by omega, rfl, HO.out, HB.out⟩
      case round =>
        clear HO HB
        obtain ⟨k, hk, rfl, hO, hB⟩ := hrel
        obtain ⟨wk, rfl⟩ : ∃ wk : World, wk = wr := ⟨_, rfl⟩
        by_cases hkl : k < n
        · have hk0 : (0 : Int) ≤ k := by omega
          have hki : (k : Int) < n := by omega
          have hta := HTA.out.keep hB
          have hua := HUA.out.keep hB
          have t0 := hta.outer hil
          have t1 := hta.mark hil hkl
          have u0 := hua.outer hil
          have u1 := hua.mark hil hkl
          have o0 := hO.outer hil
          have o1 := hO.mark hil hkl
          have of_ := hO.free hil k
          have HFILL := Lib.hid (fun v (hv : tMinus T U i k = v) => hO.fill hil v hv)
          have HD := Lib.hid (show tMinus T U i k = (T i k && !U i k) from rfl)
          have HBS := Lib.hid (fun v => hB.setCell (p := ⟨w.heap.size + 1 + i, k, none⟩) (by simp; omega) (.bool v))
          clear hta hua hO hB
          generalize fillTo (tMinus T U) i k i k = old at *
          generalize tMinus T U i k = z at *
          generalize T i k = x at *
          generalize U i k = y at *
          cases x
          · have HF := Lib.hid (HFILL.out false (by rw [HD.out]; rfl))
            clear HFILL HD
            go_wp2_with fail
            refine region_tail 22 (by kernel_rfl) (by kernel_rfl) ?_
            simp only [List.take_succ_cons, List.take_zero, List.drop_succ_cons, List.drop_zero]
            iterate 13 still_step
            iterate 7 (with_reducible refine wpStill_skip ?_ ?_; · kernel_rfl
                       simp only [Act.put, List.setIfInBounds_toArray, List.set_cons_zero, List.set_cons_succ])
            repeat (with_reducible refine wpStill_step (fun K hK => ?_)
                    go_simp
                    refine hK _ ?_
                    clear hK K)
            refine wpStill_nil ?_
            go_wp2_with fail
            go_roundw
            case rel => exact ⟨k + 1, by omega, by go_num, HF.out, below_drewN (HBS.out _) 1⟩
            case measure => simp [intOf]; omega
          · have HF := Lib.hid (HFILL.out (!y) (by rw [HD.out]; rfl))
            clear HFILL HD
            go_wp2_with fail
            refine region_tail 22 (by kernel_rfl) (by kernel_rfl) ?_
            simp only [List.take_succ_cons, List.take_zero, List.drop_succ_cons, List.drop_zero]
            repeat still_step
            refine wpStill_nil ?_
            go_wp2_with fail
            go_roundw
            case rel => exact ⟨k + 1, by omega, by go_num, HF.out, below_drewN (HBS.out _) 1⟩
            case measure => simp [intOf]; omega
        · obtain rfl : k = n := by omega
          have HO := Lib.hid hO.fillNext
          have HB := Lib.hid hB
          clear hO hB
          go_wp2_with fail
          go_roundw
          case rel => exact ⟨i + 1, by omega, by go_num, HO.out, HB.out⟩
          case measure => simp [intOf]; omega
    · obtain rfl : i = n := by omega
      have HO := Lib.hid hO.filled
      have HB := Lib.hid hB
      clear hO hB
      go_wp2_with fail
      go_ret
      exact ⟨rfl, HO.out, HB.out⟩
end Go.Proofs.YtmiajpoclgdhbaaDoor
