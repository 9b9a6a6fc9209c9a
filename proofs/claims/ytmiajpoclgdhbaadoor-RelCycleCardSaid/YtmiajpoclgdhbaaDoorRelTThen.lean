/- Inverse and Then of the reference. -/
import Derived.Test.YtmiajpoclgdhbaaDoorRelFill
import Derived.Test.YtmiajpoclgdhbaaDoorRelThenW
namespace Go.Proofs.YtmiajpoclgdhbaaDoor
open Go.RowKit
set_option linter.unusedVariables false
set_option linter.unusedSimpArgs false

def invFill (T : Nat → Nat → Bool) (i k : Nat) : Nat → Nat → Bool := fun a b => fillTo T i k b a
theorem invFill_step (T : Nat → Nat → Bool) (i k : Nat) : updT (invFill T i k) k i (T i k) = invFill T i (k + 1) := by
  funext a b
  have := congrFun (congrFun (fill_step T i k) b) a
  unfold invFill
  rw [← this]
  unfold updT
  by_cases h : a = k ∧ b = i
  · rw [if_pos h, if_pos ⟨h.2, h.1⟩]
  · rw [if_neg h, if_neg (fun e => h ⟨e.2, e.1⟩)]
set_option maxHeartbeats 3200000 in
theorem tinv_any (t n : Nat) (T : Nat → Nat → Bool) (w : World) (h : TabAt w t n T) (hn : n ≤ 1000) :
    Calls Tryd.prog 43 #[.slice (some ⟨t, 0, none⟩) n n] w fun e w' => e = .returned (.slice (some ⟨w.heap.size, 0, none⟩) n n) ∧ TabAt w' w.heap.size n (fun a b => T b a) ∧ Below w.heap.size w w' := by
  have HTA := Lib.hid h
  have HEM := Lib.hid (empty_any n w hn)
  clear h
  go_enter Tryd.func43, Tryd.ntmps43
  go_wp2_with fail
  refine (HEM.out).mono ?_
  rintro e w1 ⟨rfl, hu, hb, hz⟩
  have HU := Lib.hid (show TabAt w1 w.heap.size n (invFill T 0 0) from by
    have : invFill T 0 0 = fun _ _ => false := by funext a b; unfold invFill; rw [fill_zero]
    rw [this]; exact hu)
  have HB := Lib.hid hb
  clear hu hb hz HEM
  go_wp2_with fail
  go_loopw [4] (fun i wr => ∃ k : Nat, k ≤ n ∧ i = .int .i64 k ∧ TabAt wr w.heap.size n (invFill T k 0) ∧ Below w.heap.size w wr) (fun i _ => n - (intOf i).toNat)
  case atStart => exact ⟨0, by omega, rfl, HU.out, HB.out⟩
  case round =>
    clear HU HB
    obtain ⟨k, hk, rfl, hU, hB⟩ := hrel
    obtain ⟨wo, rfl⟩ : ∃ wo : World, wo = wr := ⟨_, rfl⟩
    by_cases hkl : k < n
    · have HU := Lib.hid hU
      have HB := Lib.hid hB
      have hk0 : (0 : Int) ≤ k := by omega
      have hki : (k : Int) < n := by omega
      clear hU hB
      go_wp2_with fail
      go_loopw [5] (fun i wr => ∃ j : Nat, j ≤ n ∧ i = .int .i64 j ∧ TabAt wr w.heap.size n (invFill T k j) ∧ Below w.heap.size w wr) (fun i _ => n - (intOf i).toNat)
      case atStart => exact ⟨0, by omega, rfl, HU.out, HB.out⟩
      case round =>
        clear HU HB
        obtain ⟨j, hj, rfl, hU, hB⟩ := hrel
        obtain ⟨wi, rfl⟩ : ∃ wi : World, wi = wr := ⟨_, rfl⟩
        by_cases hjl : j < n
        · have hta := HTA.out.keep hB
          have t0 := hta.outer hkl
          have t1 := hta.mark hkl hjl
          have u0 := hU.outer hjl
          have u1 := hU.mark hjl hkl
          have uf := hU.free hjl k
          have HFILL := Lib.hid (show TabAt (wi.setCell ⟨w.heap.size + 1 + j, k, none⟩ (.bool (T k j))) w.heap.size n (invFill T k (j + 1)) from by rw [← invFill_step]; exact hU.set hjl (T k j))
          have HBS := Lib.hid (fun v => hB.setCell (p := ⟨w.heap.size + 1 + j, k, none⟩) (by simp; omega) (.bool v))
          have hj0 : (0 : Int) ≤ j := by omega
          have hji : (j : Int) < n := by omega
          clear hta hU hB
          generalize invFill T k j j k = old at *
          generalize T k j = z at *
          go_wp2_with fail
          refine region_tail 13 (by kernel_rfl) (by kernel_rfl) ?_
          simp only [List.take_succ_cons, List.take_zero, List.drop_succ_cons, List.drop_zero]
          repeat still_step
          refine wpStill_nil ?_
          go_wp2_with fail
          go_roundw
          case rel => exact ⟨j + 1, by omega, by go_num, HFILL.out, below_drewN (HBS.out _) 1⟩
          case measure => simp [intOf]; omega
        · obtain rfl : j = n := by omega
          have HU := Lib.hid (show TabAt wi w.heap.size j (invFill T (k + 1) 0) from hU.congr fun a b ha hb => by unfold invFill fillTo; congr 1; rw [decide_eq_decide]; omega)
          have HB := Lib.hid hB
          clear hU hB
          go_wp2_with fail
          go_roundw
          case rel => exact ⟨k + 1, by omega, by go_num, HU.out, HB.out⟩
          case measure => simp [intOf]; omega
    · obtain rfl : k = n := by omega
      have HU := Lib.hid (show TabAt wo w.heap.size k (fun a b => T b a) from hU.congr fun a b ha hb => by unfold invFill fillTo; rw [decide_eq_true (by omega)]; rfl)
      have HB := Lib.hid hB
      clear hU hB
      go_wp2_with fail
      go_ret
      exact ⟨rfl, HU.out, HB.out⟩

def thFill (T U : Nat → Nat → Bool) (n i k m : Nat) : Nat → Nat → Bool := fun a b =>
  if a < i then thenT n T U a b else if a = i then (((List.range k).any fun q => T i q && U q b) || (decide (b < m) && (T i k && U k b))) else false
theorem thFill_step (T U : Nat → Nat → Bool) (n i k m : Nat) (h : T i k = true) : updT (thFill T U n i k m) i m (thFill T U n i k m i m || U k m) = thFill T U n i k (m + 1) := by
  funext a b
  unfold updT thFill
  by_cases e : a = i ∧ b = m
  · rw [if_pos e, e.1, e.2, if_neg (by omega), if_pos rfl, if_neg (by omega), if_pos rfl, decide_eq_false (by omega), decide_eq_true (show m < m + 1 by omega), h]; simp
  · rw [if_neg e]
    by_cases e1 : a < i
    · rw [if_pos e1, if_pos e1]
    · rw [if_neg e1, if_neg e1]
      by_cases e2 : a = i
      · rw [if_pos e2, if_pos e2]
        congr 2
        rw [decide_eq_decide]; omega
      · rw [if_neg e2, if_neg e2]
theorem thFill_nextk (T U : Nat → Nat → Bool) (n i k : Nat) (a b : Nat) (hb : b < n) : thFill T U n i k n a b = thFill T U n i (k + 1) 0 a b := by
  unfold thFill
  by_cases e1 : a < i
  · rw [if_pos e1, if_pos e1]
  · rw [if_neg e1, if_neg e1]
    by_cases e2 : a = i
    · rw [if_pos e2, if_pos e2, List.range_succ, List.any_append, decide_eq_true hb, decide_eq_false (by omega)]; simp
    · rw [if_neg e2, if_neg e2]
theorem thFill_skipk (T U : Nat → Nat → Bool) (n i k : Nat) (h : T i k = false) : thFill T U n i k 0 = thFill T U n i (k + 1) 0 := by
  funext a b
  unfold thFill
  by_cases e1 : a < i
  · rw [if_pos e1, if_pos e1]
  · rw [if_neg e1, if_neg e1]
    by_cases e2 : a = i
    · rw [if_pos e2, if_pos e2, List.range_succ, List.any_append, decide_eq_false (by omega)]; simp [h]
    · rw [if_neg e2, if_neg e2]
theorem thFill_nexti (T U : Nat → Nat → Bool) (n i : Nat) (a b : Nat) : thFill T U n i n 0 a b = thFill T U n (i + 1) 0 0 a b := by
  unfold thFill
  by_cases e1 : a < i
  · rw [if_pos e1, if_pos (by omega)]
  · rw [if_neg e1]
    by_cases e2 : a = i
    · rw [if_pos e2, if_pos (by omega), decide_eq_false (by omega), e2]; unfold thenT; simp
    · rw [if_neg e2, if_neg (by omega)]
      by_cases e3 : a = i + 1
      · rw [if_pos e3]; simp
      · rw [if_neg e3]
theorem thFill_zero (T U : Nat → Nat → Bool) (n : Nat) : thFill T U n 0 0 0 = fun _ _ => false := by
  funext a b
  unfold thFill
  rw [if_neg (by omega)]
  split <;> simp
theorem thFill_end (T U : Nat → Nat → Bool) (n a b : Nat) (ha : a < n) : thFill T U n n 0 0 a b = thenT n T U a b := by unfold thFill; rw [if_pos ha]
set_option maxRecDepth 100000 in
set_option maxHeartbeats 6000000 in
theorem tthen_any (t u n : Nat) (T U : Nat → Nat → Bool) (w : World) (h : TabAt w t n T) (h2 : TabAt w u n U) (hn : n ≤ 1000) :
    Calls Tryd.prog 41 #[.slice (some ⟨t, 0, none⟩) n n, .slice (some ⟨u, 0, none⟩) n n] w fun e w' => e = .returned (.slice (some ⟨w.heap.size, 0, none⟩) n n) ∧ TabAt w' w.heap.size n (thenT n T U) ∧ Below w.heap.size w w' := by
  have HTA := Lib.hid h
  have HUA := Lib.hid h2
  have HEM := Lib.hid (empty_any n w hn)
  clear h h2
  go_enter Tryd.func41, Tryd.ntmps41
  go_wp2_with fail
  refine (HEM.out).mono ?_
  rintro e w1 ⟨rfl, hu, hb, hz⟩
  have HO := Lib.hid (show TabAt w1 w.heap.size n (thFill T U n 0 0 0) from by rw [thFill_zero]; exact hu)
  have HB := Lib.hid hb
  clear hu hb hz HEM
  go_wp2_with fail
  go_loopw [6] (fun i wr => ∃ k : Nat, k ≤ n ∧ i = .int .i64 k ∧ TabAt wr w.heap.size n (thFill T U n k 0 0) ∧ Below w.heap.size w wr) (fun i _ => n - (intOf i).toNat)
  case atStart => exact ⟨0, by omega, rfl, HO.out, HB.out⟩
  case round =>
    clear HO HB
    obtain ⟨i, hi, rfl, hO, hB⟩ := hrel
    obtain ⟨wo, rfl⟩ : ∃ wo : World, wo = wr := ⟨_, rfl⟩
    by_cases hil : i < n
    · have HO := Lib.hid hO
      have HB := Lib.hid hB
      have hi0 : (0 : Int) ≤ i := by omega
      have hii : (i : Int) < n := by omega
      clear hO hB
      go_wp2_with fail
      go_loopw [7] (fun q wr => ∃ k : Nat, k ≤ n ∧ q = .int .i64 k ∧ TabAt wr w.heap.size n (thFill T U n i k 0) ∧ Below w.heap.size w wr) (fun q _ => n - (intOf q).toNat)
      case atStart => exact ⟨0, by omega, rfl, HO.out, HB.out⟩
      case round =>
        clear HO HB
        obtain ⟨k, hk, rfl, hO, hB⟩ := hrel
        obtain ⟨wk, rfl⟩ : ∃ wk : World, wk = wr := ⟨_, rfl⟩
        by_cases hkl : k < n
        · have hk0 : (0 : Int) ≤ k := by omega
          have hki : (k : Int) < n := by omega
          cases hT : T i k
          · have hta := HTA.out.keep hB
            have t0 := hta.outer hil
            have t1 := hta.mark hil hkl
            rw [hT] at t1
            have HO := Lib.hid (show TabAt wk w.heap.size n (thFill T U n i (k + 1) 0) from by rw [← thFill_skipk T U n i k hT]; exact hO)
            have HB := Lib.hid hB
            have hn0 : (0 : Int) < n := by omega
            have hn0' : 0 < n := by omega
            clear hta hO hB hT
            go_wp2_with fail
            go_loop [8] (fun q => q = .int .i64 0) (fun q => 0)
            case atStart => rfl
            case round =>
              subst hrel
              go_wp2_with fail
              go_roundw
              case rel => exact ⟨k + 1, by omega, by go_num, HO.out, HB.out⟩
              case measure => simp [intOf]; omega
          · have HO := Lib.hid hO
            have HB := Lib.hid hB
            have HTK := Lib.hid hT
            clear hO hB hT
            go_wp2_with fail
            go_loopw [8] (fun q wr => ∃ m : Nat, m ≤ n ∧ q = .int .i64 m ∧ TabAt wr w.heap.size n (thFill T U n i k m) ∧ Below w.heap.size w wr) (fun q _ => n - (intOf q).toNat)
            case atStart => exact ⟨0, by omega, rfl, HO.out, HB.out⟩
            case round =>
              clear HO HB
              obtain ⟨m, hm, rfl, hO, hB⟩ := hrel
              obtain ⟨wi, rfl⟩ : ∃ wi : World, wi = wr := ⟨_, rfl⟩
              by_cases hml : m < n
              · have hta := HTA.out.keep hB
                have hua := HUA.out.keep hB
                have t0 := hta.outer hil
                have t1 := hta.mark hil hkl
                rw [HTK.out] at t1
                have u0 := hua.outer hkl
                have u1 := hua.mark hkl hml
                have o0 := hO.outer hil
                have o1 := hO.mark hil hml
                have of_ := hO.free hil m
                have HFILL := Lib.hid (show TabAt (wi.setCell ⟨w.heap.size + 1 + i, m, none⟩ (.bool (thFill T U n i k m i m || U k m))) w.heap.size n (thFill T U n i k (m + 1)) from by rw [← thFill_step T U n i k m HTK.out]; exact hO.set hil _)
                have HBS := Lib.hid (fun v => hB.setCell (p := ⟨w.heap.size + 1 + i, m, none⟩) (by simp; omega) (.bool v))
                have hm0 : (0 : Int) ≤ m := by omega
                have hmi : (m : Int) < n := by omega
                clear hta hua hO hB
                generalize thFill T U n i k m i m = old at *
                generalize U k m = z at *
                cases old
                · skip
                  go_wp2_with fail
                  refine region_tail 22 (by kernel_rfl) (by kernel_rfl) ?_
                  simp only [List.take_succ_cons, List.take_zero, List.drop_succ_cons, List.drop_zero]
                  repeat still_step
                  refine wpStill_nil ?_
                  go_wp2_with fail
                  go_roundw
                  case rel => exact ⟨m + 1, by omega, by go_num, by have h := HFILL.out; simp only [Bool.true_or, Bool.false_or] at h; exact h, below_drewN (HBS.out _) 1⟩
                  case measure => simp [intOf]; omega
                · skip
                  go_wp2_with fail
                  refine region_tail 22 (by kernel_rfl) (by kernel_rfl) ?_
                  simp only [List.take_succ_cons, List.take_zero, List.drop_succ_cons, List.drop_zero]
                  iterate 13 still_step
                  iterate 7 (with_reducible refine wpStill_skip ?_ ?_; · kernel_rfl
                             simp only [Act.put, List.setIfInBounds_toArray, List.set_cons_zero, List.set_cons_succ])
                  repeat (with_reducible refine wpStill_step (fun K hK => ?_)
                          go_simp
                          refine hK _ ?_
                          clear hK K)
                  refine wpStill_nil ?_
                  go_wp2_with fail
                  go_roundw
                  case rel => exact ⟨m + 1, by omega, by go_num, by have h := HFILL.out; simp only [Bool.true_or, Bool.false_or] at h; exact h, below_drewN (HBS.out _) 1⟩
                  case measure => simp [intOf]; omega
              · obtain rfl : m = n := by omega
                have HO := Lib.hid (show TabAt wi w.heap.size m (thFill T U m i (k + 1) 0) from hO.congr fun a b ha hb => thFill_nextk T U m i k a b hb)
                have HB := Lib.hid hB
                clear hO hB
                go_wp2_with fail
                go_roundw
                case rel => exact ⟨k + 1, by omega, by go_num, HO.out, HB.out⟩
                case measure => simp [intOf]; omega
        · obtain rfl : k = n := by omega
          have HO := Lib.hid (show TabAt wk w.heap.size k (thFill T U k (i + 1) 0 0) from hO.congr fun a b ha hb => thFill_nexti T U k i a b)
          have HB := Lib.hid hB
          clear hO hB
          go_wp2_with fail
          go_roundw
          case rel => exact ⟨i + 1, by omega, by go_num, HO.out, HB.out⟩
          case measure => simp [intOf]; omega
    · obtain rfl : i = n := by omega
      have HO := Lib.hid (show TabAt wo w.heap.size i (thenT i T U) from hO.congr fun a b ha hb => thFill_end T U i a b ha)
      have HB := Lib.hid hB
      clear hO hB
      go_wp2_with fail
      go_ret
      exact ⟨rfl, HO.out, HB.out⟩
end Go.Proofs.YtmiajpoclgdhbaaDoor
