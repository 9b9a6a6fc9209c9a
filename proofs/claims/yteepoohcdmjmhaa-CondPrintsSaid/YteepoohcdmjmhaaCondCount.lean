/- How many parts a condition has. -/
import Derived.Test.YteepoohcdmjmhaaCondSmall
namespace Go.Proofs.Yteepoohcdmjmhaa
open Go.RowKit
set_option linter.unusedVariables false
set_option linter.unusedSimpArgs false

mutual
def countT : CT → Nat
  | .mk _ _ _ _ _ args => 1 + countL args
def countL : List CT → Nat
  | [] => 0
  | t :: ts => countT t + countL ts
end
theorem countL_append : ∀ (a b : List CT), countL (a ++ b) = countL a + countL b
  | [], b => by simp [countL]
  | t :: a, b => by simp only [List.cons_append, countL, countL_append a b]; omega
theorem countL_take (l : List CT) (j : Nat) (hj : j < l.length) : countL (l.take (j + 1)) = countL (l.take j) + countT l[j] ∧ countL (l.take j) + countT l[j] ≤ countL l := by
  have e : countL (l.take (j + 1)) = countL (l.take j) + countT l[j] := by
    rw [List.take_succ_eq_append_getElem hj, countL_append]; simp [countL]
  refine ⟨e, ?_⟩
  have h := countL_append (l.take (j + 1)) (l.drop (j + 1))
  rw [List.take_append_drop] at h
  omega
theorem small_count : ∀ (d : Nat) (t : CT), smallT d t = true → countT t ≤ 7 ^ d
  | 0, t, h => by simp [smallT] at h
  | d + 1, .mk k c r a v args, h => by
    rw [smallT] at h
    simp only [Bool.and_eq_true, decide_eq_true_eq, List.all_eq_true] at h
    have hl : ∀ l : List CT, (∀ u ∈ l, u ∈ args) → countL l ≤ l.length * 7 ^ d := by
      intro l
      induction l with
      | nil => intro _; simp [countL]
      | cons u l ih =>
        intro hm
        have h1 := small_count d u (h.2 u (hm u (by simp)))
        have h2 := ih (fun x hx => hm x (by simp [hx]))
        simp only [countL, List.length_cons, Nat.succ_mul]
        omega
    have h1 := hl args (fun _ h => h)
    have h2 : args.length * 7 ^ d ≤ 6 * 7 ^ d := Nat.mul_le_mul_right _ h.1
    have h3 : 1 ≤ 7 ^ d := Nat.one_le_pow _ _ (by decide)
    rw [countT, Nat.pow_succ]
    omega

set_option maxRecDepth 100000 in
set_option maxHeartbeats 1600000 in
theorem ccount_any : ∀ (t : CT) (w : World) (S : Nat → Prop) (cs : List Value), countT t ≤ 1000000000 → CT.At w S t cs →
    Calls Try.prog 23 #[.agg cs.toArray] w fun e w' => e = .returned (.int .i64 (countT t : Nat)) ∧ Below w.heap.size w w' := by
  intro t
  refine CT.ind (P := fun t => ∀ (w : World) (S : Nat → Prop) (cs : List Value), countT t ≤ 1000000000 → CT.At w S t cs → Calls Try.prog 23 #[.agg cs.toArray] w fun e w' => e = .returned (.int .i64 (countT t : Nat)) ∧ Below w.heap.size w w') ?_ t
  intro k c r a v args IH w S cs hc ht
  obtain ⟨p, cap, rfl, h1, h2, h3, h4, h5⟩ := ht.own
  have HI := Lib.hid IH
  have HN := Lib.hid (own_box w #[.int .i64 k, .int .i64 c, .int .i64 r, .int .u64 (a : Nat), .int .u64 (v : Nat), .slice p args.length cap])
  have HB := Lib.hid (show Below w.heap.size w (w.alloc (.cells #[.int .i64 k, .int .i64 c, .int .i64 r, .int .u64 (a : Nat), .int .u64 (v : Nat), .slice p args.length cap] 25)) from below_alloc (Below.refl _ _) _)
  have HR := Lib.hid (h5.below HB.out)
  have HD := Lib.hid (show countT (.mk k c r a v args) = 1 + countL args from rfl)
  have hcl : 1 + countL args ≤ 1000000000 := by rw [← HD.out]; exact hc
  have hcap : cap ≤ 9223372036854775807 := by unfold maxLen at h2; omega
  clear ht IH h5 hc
  generalize countT (.mk k c r a v args) = R at *
  go_enter Try.func23, Try.ntmps23
  generalize hW1 : w.alloc (.cells #[.int .i64 k, .int .i64 c, .int .i64 r, .int .u64 (a : Nat), .int .u64 (v : Nat), .slice p args.length cap] 25) = w1 at *
  have c5 := HN.out.cell 5
  simp only [List.getElem?_cons_zero, List.getElem?_cons_succ] at c5
  have hsz : w.heap.size < w1.heap.size := by rw [← hW1]; simp
  have HW1 := Lib.hid hW1
  clear hW1
  go_wp2_with fail
  go_loopw [3, 9] (fun s i wr => ∃ j : Nat, j ≤ args.length ∧ s = .int .i64 ((1 + countL (args.take j) : Nat) : Int) ∧ i = .int .i64 j ∧ Below w1.heap.size w1 wr) (fun _ i _ => args.length - (intOf i).toNat)
  case atStart => exact ⟨0, by omega, by simp [countL], rfl, by rw [HW1.out]; exact Below.refl _ _⟩
  case round =>
    obtain ⟨j, hj, rfl, rfl, hb⟩ := hrel
    have HBR := Lib.hid hb
    have c5r := cell_below c5 hb
    clear hb
    by_cases hjl : j < args.length
    · have hj0 : (0 : Int) ≤ j := by omega
      have hjn : (j : Int) < args.length := by omega
      obtain ⟨g, off, k', co', rg', ad', va', q', l', cp', rfl, e0, e1, e2, e3, e4, e5, hu⟩ := (HR.out.below HBR.out).part hjl
      obtain ⟨ht1, ht2⟩ := countL_take args j hjl
      have HT1 := Lib.hid ht1
      have hcu : countT args[j] ≤ 1000000000 := by omega
      have HBA := Lib.hid (below_alloc (Below.refl wr.heap.size wr) (.cells #[.int .i64 k', .int .i64 co', .int .i64 rg', .int .u64 ad', .int .u64 va', .slice q' l' cp'] 25))
      have HC := Lib.hid (HI.out _ (List.getElem_mem hjl) _ S _ hcu (hu.below HBA.out))
      clear hu
      clear ht1
      generalize args[j] = u at *
      generalize hA : countL (args.take j) = A at *
      generalize hC : countT u = C at *
      have hwr : IntKind.i64.wrap ((1 : Int) + A + C) = 1 + A + C := IntWalk.i64_in _ (by omega)
      go_wp2_with fail
      refine (HC.out).mono ?_
      rintro e w4 ⟨rfl, hb4⟩
      have HB4 := Lib.hid (below_trans (below_trans HBR.out HBA.out) hb4)
      clear hb4
      go_wp2_with fail
      go_roundw
      case rel => exact ⟨j + 1, by omega, by rw [HT1.out]; first | (go_num; done) | (congr 1; omega) | (simp; omega), by go_num, HB4.out⟩
      case measure => simp [intOf]; omega
    · obtain rfl : j = args.length := by omega
      go_wp2_with fail
      go_ret
      exact ⟨by rw [HD.out, List.take_length]; rfl, below_trans HB.out HBR.out⟩

set_option maxRecDepth 100000 in
set_option maxHeartbeats 1600000 in
theorem rcount_any : ∀ (t : CT) (w : World) (S : Nat → Prop) (cs : List Value), countT t ≤ 1000000000 → CT.At w S t cs →
    Calls Try.prog 24 #[.agg cs.toArray] w fun e w' => e = .returned (.int .i64 (countT t : Nat)) ∧ Below w.heap.size w w' := by
  intro t
  refine CT.ind (P := fun t => ∀ (w : World) (S : Nat → Prop) (cs : List Value), countT t ≤ 1000000000 → CT.At w S t cs → Calls Try.prog 24 #[.agg cs.toArray] w fun e w' => e = .returned (.int .i64 (countT t : Nat)) ∧ Below w.heap.size w w') ?_ t
  intro k c r a v args IH w S cs hc ht
  obtain ⟨p, cap, rfl, h1, h2, h3, h4, h5⟩ := ht.own
  have HI := Lib.hid IH
  have HN := Lib.hid (own_box w #[.int .i64 k, .int .i64 c, .int .i64 r, .int .u64 (a : Nat), .int .u64 (v : Nat), .slice p args.length cap])
  have HB := Lib.hid (show Below w.heap.size w (w.alloc (.cells #[.int .i64 k, .int .i64 c, .int .i64 r, .int .u64 (a : Nat), .int .u64 (v : Nat), .slice p args.length cap] 25)) from below_alloc (Below.refl _ _) _)
  have HR := Lib.hid (h5.below HB.out)
  have HD := Lib.hid (show countT (.mk k c r a v args) = 1 + countL args from rfl)
  have hcl : 1 + countL args ≤ 1000000000 := by rw [← HD.out]; exact hc
  have hcap : cap ≤ 9223372036854775807 := by unfold maxLen at h2; omega
  clear ht IH h5 hc
  generalize countT (.mk k c r a v args) = R at *
  go_enter Try.func24, Try.ntmps24
  generalize hW1 : w.alloc (.cells #[.int .i64 k, .int .i64 c, .int .i64 r, .int .u64 (a : Nat), .int .u64 (v : Nat), .slice p args.length cap] 25) = w1 at *
  have c5 := HN.out.cell 5
  simp only [List.getElem?_cons_zero, List.getElem?_cons_succ] at c5
  have hsz : w.heap.size < w1.heap.size := by rw [← hW1]; simp
  have HW1 := Lib.hid hW1
  clear hW1
  go_wp2_with fail
  go_loopw [3, 4] (fun s i wr => ∃ j : Nat, j ≤ args.length ∧ s = .int .i64 ((1 + countL (args.take j) : Nat) : Int) ∧ i = .int .i64 j ∧ Below w1.heap.size w1 wr) (fun _ i _ => args.length - (intOf i).toNat)
  case atStart => exact ⟨0, by omega, by simp [countL], rfl, by rw [HW1.out]; exact Below.refl _ _⟩
  case round =>
    obtain ⟨j, hj, rfl, rfl, hb⟩ := hrel
    have HBR := Lib.hid hb
    have c5r := cell_below c5 hb
    clear hb
    by_cases hjl : j < args.length
    · have hj0 : (0 : Int) ≤ j := by omega
      have hjn : (j : Int) < args.length := by omega
      obtain ⟨g, off, k', co', rg', ad', va', q', l', cp', rfl, e0, e1, e2, e3, e4, e5, hu⟩ := (HR.out.below HBR.out).part hjl
      obtain ⟨ht1, ht2⟩ := countL_take args j hjl
      have HT1 := Lib.hid ht1
      have hcu : countT args[j] ≤ 1000000000 := by omega
      have HC := Lib.hid (HI.out _ (List.getElem_mem hjl) wr S _ hcu hu)
      clear hu
      clear ht1
      generalize args[j] = u at *
      generalize hA : countL (args.take j) = A at *
      generalize hC : countT u = C at *
      have hwr : IntKind.i64.wrap ((1 : Int) + A + C) = 1 + A + C := IntWalk.i64_in _ (by omega)
      go_wp2_with fail
      refine (HC.out).mono ?_
      rintro e w4 ⟨rfl, hb4⟩
      have HB4 := Lib.hid (below_trans HBR.out hb4)
      clear hb4
      go_wp2_with fail
      go_roundw
      case rel => exact ⟨j + 1, by omega, by rw [HT1.out]; first | (go_num; done) | (congr 1; omega) | (simp; omega), by go_num, HB4.out⟩
      case measure => simp [intOf]; omega
    · obtain rfl : j = args.length := by omega
      go_wp2_with fail
      go_ret
      exact ⟨by rw [HD.out, List.take_length]; rfl, below_trans HB.out HBR.out⟩
end Go.Proofs.Yteepoohcdmjmhaa
