/- Without the document: not both is one of both not; and the order of two does not matter. -/
import Derived.Test.YteepoohcdmjmhaaRows
import Derived.Test.YteepoohcdmjmhaaBase
import Derived.ShutString
import Derived.ChangeOld
import Derived.Lib.SmallJoins
import Derived.Test.YteepoohcdmjmhaaCondAwake
import Derived.Test.YteepoohcdmjmhaaCondVerd
import Derived.Test.YteepoohcdmjmhaaCondOut
import Derived.Test.YteepoohcdmjmhaaAnyInv
import Derived.Deep.DeepCutAuto
import Derived.Deep.RegionHeld
namespace Go.Proofs.Yteepoohcdmjmhaa.condTurns
open Go.ChangeShapes Go.WideShapes Go.ChangeAt Go.RowKit
open Go.ChangeMaps (open_string shut_string)
set_option linter.unusedVariables false
set_option linter.unusedSimpArgs false

theorem own : ownKnob Try.prog.godebug = none := by kernel_rfl
theorem laidOut : laidOutB Try.prog = true := by kernel_rfl

theorem heap_newO (w : World) (o : Obj) : (w.alloc o).heap[w.heap.size]? = some o := by show (w.heap.push o)[w.heap.size]? = _; simp
theorem alloc4 (w : World) (o1 o2 o3 o4 : Obj) : ((((w.alloc o1).alloc o2).alloc o3).alloc o4).heap[w.heap.size]? = some o1 ∧ ((((w.alloc o1).alloc o2).alloc o3).alloc o4).heap[w.heap.size + 1]? = some o2 ∧ ((((w.alloc o1).alloc o2).alloc o3).alloc o4).heap[w.heap.size + 1 + 1]? = some o3 ∧ ((((w.alloc o1).alloc o2).alloc o3).alloc o4).heap[w.heap.size + 1 + 1 + 1]? = some o4 := by
  refine ⟨?_, ?_, ?_, ?_⟩
  · rw [Below.heap_alloc _ _ _ (show w.heap.size < (((w.alloc o1).alloc o2).alloc o3).heap.size by simp only [World.size_alloc]; omega), Below.heap_alloc _ _ _ (show w.heap.size < ((w.alloc o1).alloc o2).heap.size by simp only [World.size_alloc]; omega), Below.heap_alloc _ _ _ (show w.heap.size < (w.alloc o1).heap.size by simp only [World.size_alloc]; omega)]; exact heap_newO w o1
  · rw [Below.heap_alloc _ _ _ (by simp), Below.heap_alloc _ _ _ (by simp)]
    have := heap_newO (w.alloc o1) o2
    simpa using this
  · rw [Below.heap_alloc _ _ _ (by simp)]
    have := heap_newO ((w.alloc o1).alloc o2) o3
    simpa using this
  · have := heap_newO (((w.alloc o1).alloc o2).alloc o3) o4
    simpa using this
theorem ready_after {md : Region.Mode} {ops : Array Oper} {l : Array Bool} {i : Nat} (hi : i ∈ Region.ready md ops l) (o : Oper) (ho : ops[i]? = some o) (k : Nat) (hk : (o.after.any fun e => Region.binds md e && e.on == k) = true) : l.getD k false = true := by
  obtain ⟨_, o', ho', hall⟩ := mem_ready.1 hi
  obtain rfl : o = o' := Option.some.inj (ho.symm.trans ho')
  obtain ⟨j, hj, h⟩ := Array.any_eq_true.1 hk
  simp only [Bool.and_eq_true, beq_iff_eq] at h
  rw [← h.2]
  exact hall _ (Array.getElem_mem hj) h.1
theorem ready_all {md : Region.Mode} {ops : Array Oper} (h : (decide (∀ b1 b2 b4 b5 b6 b7 b8 b9 : Bool, Region.ready md ops #[true, b1, b2, true, b4, b5, b6, b7, b8, b9] = [] → (b1 && b2 && b4 && b5 && b6 && b7 && b8 && b9) = true)) = true) {b1 b2 b4 b5 b6 b7 b8 b9 : Bool} (hr : Region.ready md ops #[true, b1, b2, true, b4, b5, b6, b7, b8, b9] = []) : b1 = true ∧ b2 = true ∧ b4 = true ∧ b5 = true ∧ b6 = true ∧ b7 = true ∧ b8 = true ∧ b9 = true := by
  have := of_decide_eq_true h b1 b2 b4 b5 b6 b7 b8 b9 hr
  simpa [Bool.and_eq_true, and_assoc] using this
abbrev set6 (w : World) (g : Nat) (a b c d e f : Value) : World := ((((((w.setCell ⟨g, 0, none⟩ a).setCell ⟨g, 1, none⟩ b).setCell ⟨g, 2, none⟩ c).setCell ⟨g, 3, none⟩ d).setCell ⟨g, 4, none⟩ e).setCell ⟨g, 5, none⟩ f)
theorem blk_set6 {w : World} {T g : Nat} {z0 z1 z2 z3 z4 z5 : Value} (h : Blk w T g [z0, z1, z2, z3, z4, z5]) (a b c d e f : Value) : Blk (set6 w g a b c d e f) T g [a, b, c, d, e, f] :=
  (((((h.set 0 a).set 1 b).set 2 c).set 3 d).set 4 e).set 5 f
theorem blk_other6 {w : World} {T g k : Nat} {cs : List Value} (h : Blk w T k cs) (hne : k ≠ g) (a b c d e f : Value) : Blk (set6 w g a b c d e f) T k cs :=
  (((((h.other hne a).other hne b).other hne c).other hne d).other hne e).other hne f
theorem below_set6 {w w' : World} {B g : Nat} (h : Below B w w') (hg : B ≤ g) (a b c d e f : Value) : Below B w (set6 w' g a b c d e f) :=
  (((((h.setCell hg a).setCell hg b).setCell hg c).setCell hg d).setCell hg e).setCell hg f
theorem six_of {z : List Value} (h : z.length = 6) : ∃ a b c d e f, z = [a, b, c, d, e, f] := by
  match z, h with
  | [a, b, c, d, e, f], _ => exact ⟨a, b, c, d, e, f, rfl⟩
theorem turn_or (x y : Bool) : ((!x) || (!y)) = !(x && y) := by cases x <;> cases y <;> rfl
theorem holds_or (o : OU) (a b : CT) : holdsT o (.mk 5 0 0 0 0 [.mk 6 0 0 0 0 [a], .mk 6 0 0 0 0 [b]]) = !(holdsT o (.mk 4 0 0 0 0 [a, b])) := by
  simp only [holdsT, holdsL]
  generalize holdsT o a = x
  generalize holdsT o b = y
  cases x <;> cases y <;> rfl
theorem holds_turned (o : OU) (a b : CT) : holdsT o (.mk 4 0 0 0 0 [b, a]) = holdsT o (.mk 4 0 0 0 0 [a, b]) := by
  simp only [holdsT, holdsL]
  generalize holdsT o a = x
  generalize holdsT o b = y
  cases x <;> cases y <;> rfl
set_option maxRecDepth 100000 in
set_option maxHeartbeats 12800000 in
theorem walk (a : CT) (ca : List Value) (b : CT) (cb : List Value) (o : OU) (os : List Value) (w : World) (ha : CT.At w (fun _ => True) a ca) (hb0 : CT.At w (fun _ => True) b cb) (ho : OutAt w o os) :
    Calls Try.prog 5 #[.agg ca.toArray, .agg cb.toArray, .agg os.toArray] w fun e w' => e = .returned (.bool true) ∧ Below w.heap.size w w' := by
  have HA0 := Lib.hid ha
  have HB0 := Lib.hid hb0
  have HO0 := Lib.hid ho
  obtain ⟨k1, c1, r1, a1, v1, p1, l1, q1, rfl⟩ := ha.cells
  obtain ⟨k2, c2, r2, a2, v2, p2, l2, q2, rfl⟩ := hb0.cells
  obtain ⟨s1, m1, d1, s2, m2, d2, s3, m3, d3, rfl⟩ := out_parts ho
  have hb1 := below_alloc (below_alloc (below_alloc (Below.refl w.heap.size w) (.cells #[.int .i64 k1, .int .i64 c1, .int .i64 r1, .int .u64 a1, .int .u64 v1, .slice p1 l1 q1] 25)) (.cells #[.int .i64 k2, .int .i64 c2, .int .i64 r2, .int .u64 a2, .int .u64 v2, .slice p2 l2 q2] 25)) (.cells #[.slice s1 m1 d1, .slice s2 m2 d2, .slice s3 m3 d3] 48)
  have HB1 := Lib.hid hb1
  have HA1 := Lib.hid (HA0.out.below hb1)
  have HT1 := Lib.hid (HB0.out.below hb1)
  have HO1 := Lib.hid (HO0.out.below hb1)
  have HNA := Lib.hid (((own_box w #[.int .i64 k1, .int .i64 c1, .int .i64 r1, .int .u64 a1, .int .u64 v1, .slice p1 l1 q1]).alloc (.cells #[.int .i64 k2, .int .i64 c2, .int .i64 r2, .int .u64 a2, .int .u64 v2, .slice p2 l2 q2] 25)).alloc (.cells #[.slice s1 m1 d1, .slice s2 m2 d2, .slice s3 m3 d3] 48))
  have HNB := Lib.hid (show Blk (((w.alloc (.cells #[.int .i64 k1, .int .i64 c1, .int .i64 r1, .int .u64 a1, .int .u64 v1, .slice p1 l1 q1] 25)).alloc (.cells #[.int .i64 k2, .int .i64 c2, .int .i64 r2, .int .u64 a2, .int .u64 v2, .slice p2 l2 q2] 25)).alloc (.cells #[.slice s1 m1 d1, .slice s2 m2 d2, .slice s3 m3 d3] 48)) 25 (w.heap.size + 1) [.int .i64 k2, .int .i64 c2, .int .i64 r2, .int .u64 a2, .int .u64 v2, .slice p2 l2 q2] from by simpa using (own_box (w.alloc (.cells #[.int .i64 k1, .int .i64 c1, .int .i64 r1, .int .u64 a1, .int .u64 v1, .slice p1 l1 q1] 25)) #[.int .i64 k2, .int .i64 c2, .int .i64 r2, .int .u64 a2, .int .u64 v2, .slice p2 l2 q2]).alloc (.cells #[.slice s1 m1 d1, .slice s2 m2 d2, .slice s3 m3 d3] 48))
  have HNO := Lib.hid (show Blk (((w.alloc (.cells #[.int .i64 k1, .int .i64 c1, .int .i64 r1, .int .u64 a1, .int .u64 v1, .slice p1 l1 q1] 25)).alloc (.cells #[.int .i64 k2, .int .i64 c2, .int .i64 r2, .int .u64 a2, .int .u64 v2, .slice p2 l2 q2] 25)).alloc (.cells #[.slice s1 m1 d1, .slice s2 m2 d2, .slice s3 m3 d3] 48)) 48 (w.heap.size + 2) [.slice s1 m1 d1, .slice s2 m2 d2, .slice s3 m3 d3] from by simpa using Blk.new ((w.alloc (.cells #[.int .i64 k1, .int .i64 c1, .int .i64 r1, .int .u64 a1, .int .u64 v1, .slice p1 l1 q1] 25)).alloc (.cells #[.int .i64 k2, .int .i64 c2, .int .i64 r2, .int .u64 a2, .int .u64 v2, .slice p2 l2 q2] 25)) 48 [.slice s1 m1 d1, .slice s2 m2 d2, .slice s3 m3 d3])
  clear ha hb0 ho HA0 HB0 HO0 hb1
  go_enter Try.func5, Try.ntmps5
  go_wp2_with fail
  refine (cawake_any _).mono ?_
  rintro e w2 ⟨rfl, hb⟩
  have HB2 := Lib.hid (below_trans HB1.out hb)
  have HA2 := Lib.hid (HA1.out.below hb)
  have HT2 := Lib.hid (HT1.out.below hb)
  have HO2 := Lib.hid (HO1.out.below hb)
  have HNA2 := Lib.hid (HNA.out.below hb)
  have HNB2 := Lib.hid (HNB.out.below hb)
  have HNO2 := Lib.hid (HNO.out.below hb)
  clear hb HB1 HA1 HT1 HO1 HNA HNB HNO
  obtain ⟨n0, n1, n2, n3, n4, n5⟩ := blk_cells6' HNA2.out
  have HC := Lib.hid (csmall_any a 8 8 w2 _ _ rfl (by decide) HA2.out)
  go_wp2_with fail
  refine (HC.out).mono ?_
  rintro e w3 ⟨rfl, hb⟩
  have HB3 := Lib.hid (below_trans HB2.out hb)
  have HA3 := Lib.hid (HA2.out.below hb)
  have HT3 := Lib.hid (HT2.out.below hb)
  have HO3 := Lib.hid (HO2.out.below hb)
  have HNA3 := Lib.hid (HNA2.out.below hb)
  have HNB3 := Lib.hid (HNB2.out.below hb)
  have HNO3 := Lib.hid (HNO2.out.below hb)
  clear hb HC HB2 HA2 HT2 HO2 HNA2 HNB2 HNO2 n0 n1 n2 n3 n4 n5
  obtain ⟨n0, n1, n2, n3, n4, n5⟩ := blk_cells6' HNB3.out
  cases hsa : smallT 8 a
  · go_wp2_with fail
    go_ret
    exact ⟨rfl, HB3.out⟩
  have HC := Lib.hid (csmall_any b 8 8 w3 _ _ rfl (by decide) HT3.out)
  go_wp2_with fail
  refine (HC.out).mono ?_
  rintro e w4 ⟨rfl, hb⟩
  have HB4 := Lib.hid (below_trans HB3.out hb)
  have HA4 := Lib.hid (HA3.out.below hb)
  have HT4 := Lib.hid (HT3.out.below hb)
  have HO4 := Lib.hid (HO3.out.below hb)
  have HNA4 := Lib.hid (HNA3.out.below hb)
  have HNB4 := Lib.hid (HNB3.out.below hb)
  have HNO4 := Lib.hid (HNO3.out.below hb)
  clear hb HC HB3 HA3 HT3 HO3 HNA3 HNB3 HNO3 n0 n1 n2 n3 n4 n5
  cases hsb : smallT 8 b
  · go_wp2_with fail
    go_ret
    exact ⟨rfl, HB4.out⟩
  obtain ⟨n0, n1, n2, n3, n4, n5⟩ := blk_cells6' HNA4.out
  obtain ⟨t0, t1, t2, t3, t4, t5⟩ := blk_cells6' HNB4.out
  have hlo := HNO4.out.lt
  have hl1 : w.heap.size < w4.heap.size := by omega
  have hl2 : w.heap.size + 1 < w4.heap.size := by omega
  go_upto_region 7 with fail
  have hb6 := below_alloc (below_alloc (below_alloc (below_alloc (Below.refl w4.heap.size w4) (.cells #[.int .i64 k1, .int .i64 c1, .int .i64 r1, .int .u64 a1, .int .u64 v1, .slice p1 l1 q1, .int .i64 k2, .int .i64 c2, .int .i64 r2, .int .u64 a2, .int .u64 v2, .slice p2 l2 q2] 25)) (.cells #[.int .i64 4, .int .i64 0, .int .i64 0, .int .u64 0, .int .u64 0, .slice (some ⟨w4.heap.size, 0, none⟩) 2 2] 25)) (.cells #[.int .i64 k2, .int .i64 c2, .int .i64 r2, .int .u64 a2, .int .u64 v2, .slice p2 l2 q2, .int .i64 k1, .int .i64 c1, .int .i64 r1, .int .u64 a1, .int .u64 v1, .slice p1 l1 q1] 25)) (.cells #[.int .i64 4, .int .i64 0, .int .i64 0, .int .u64 0, .int .u64 0, .slice (some ⟨w4.heap.size + 1 + 1, 0, none⟩) 2 2] 25)
  obtain ⟨g1, g2, g3, g4⟩ := alloc4 w4 (.cells #[.int .i64 k1, .int .i64 c1, .int .i64 r1, .int .u64 a1, .int .u64 v1, .slice p1 l1 q1, .int .i64 k2, .int .i64 c2, .int .i64 r2, .int .u64 a2, .int .u64 v2, .slice p2 l2 q2] 25) (.cells #[.int .i64 4, .int .i64 0, .int .i64 0, .int .u64 0, .int .u64 0, .slice (some ⟨w4.heap.size, 0, none⟩) 2 2] 25) (.cells #[.int .i64 k2, .int .i64 c2, .int .i64 r2, .int .u64 a2, .int .u64 v2, .slice p2 l2 q2, .int .i64 k1, .int .i64 c1, .int .i64 r1, .int .u64 a1, .int .u64 v1, .slice p1 l1 q1] 25) (.cells #[.int .i64 4, .int .i64 0, .int .i64 0, .int .u64 0, .int .u64 0, .slice (some ⟨w4.heap.size + 1 + 1, 0, none⟩) 2 2] 25)
  have HB6 := Lib.hid (below_trans HB4.out hb6)
  have HP6 := Lib.hid (HA4.out.below hb6)
  have HQ6 := Lib.hid (HT4.out.below hb6)
  have HO6 := Lib.hid (HO4.out.below hb6)
  have HA6 := Lib.hid (at_two 4 (by decide) trivial rfl rfl (show Blk ((((w4.alloc (.cells #[.int .i64 k1, .int .i64 c1, .int .i64 r1, .int .u64 a1, .int .u64 v1, .slice p1 l1 q1, .int .i64 k2, .int .i64 c2, .int .i64 r2, .int .u64 a2, .int .u64 v2, .slice p2 l2 q2] 25)).alloc (.cells #[.int .i64 4, .int .i64 0, .int .i64 0, .int .u64 0, .int .u64 0, .slice (some ⟨w4.heap.size, 0, none⟩) 2 2] 25)).alloc (.cells #[.int .i64 k2, .int .i64 c2, .int .i64 r2, .int .u64 a2, .int .u64 v2, .slice p2 l2 q2, .int .i64 k1, .int .i64 c1, .int .i64 r1, .int .u64 a1, .int .u64 v1, .slice p1 l1 q1] 25)).alloc (.cells #[.int .i64 4, .int .i64 0, .int .i64 0, .int .u64 0, .int .u64 0, .slice (some ⟨w4.heap.size + 1 + 1, 0, none⟩) 2 2] 25)) 25 w4.heap.size (cells6 k1 c1 r1 a1 v1 (.slice p1 l1 q1) ++ cells6 k2 c2 r2 a2 v2 (.slice p2 l2 q2)) from g1) HP6.out HQ6.out)
  have HT6 := Lib.hid (at_two 4 (by decide) trivial rfl rfl (show Blk ((((w4.alloc (.cells #[.int .i64 k1, .int .i64 c1, .int .i64 r1, .int .u64 a1, .int .u64 v1, .slice p1 l1 q1, .int .i64 k2, .int .i64 c2, .int .i64 r2, .int .u64 a2, .int .u64 v2, .slice p2 l2 q2] 25)).alloc (.cells #[.int .i64 4, .int .i64 0, .int .i64 0, .int .u64 0, .int .u64 0, .slice (some ⟨w4.heap.size, 0, none⟩) 2 2] 25)).alloc (.cells #[.int .i64 k2, .int .i64 c2, .int .i64 r2, .int .u64 a2, .int .u64 v2, .slice p2 l2 q2, .int .i64 k1, .int .i64 c1, .int .i64 r1, .int .u64 a1, .int .u64 v1, .slice p1 l1 q1] 25)).alloc (.cells #[.int .i64 4, .int .i64 0, .int .i64 0, .int .u64 0, .int .u64 0, .slice (some ⟨w4.heap.size + 1 + 1, 0, none⟩) 2 2] 25)) 25 (w4.heap.size + 1 + 1) (cells6 k2 c2 r2 a2 v2 (.slice p2 l2 q2) ++ cells6 k1 c1 r1 a1 v1 (.slice p1 l1 q1)) from g3) HQ6.out HP6.out)
  have HE6 := Lib.hid (show Blk ((((w4.alloc (.cells #[.int .i64 k1, .int .i64 c1, .int .i64 r1, .int .u64 a1, .int .u64 v1, .slice p1 l1 q1, .int .i64 k2, .int .i64 c2, .int .i64 r2, .int .u64 a2, .int .u64 v2, .slice p2 l2 q2] 25)).alloc (.cells #[.int .i64 4, .int .i64 0, .int .i64 0, .int .u64 0, .int .u64 0, .slice (some ⟨w4.heap.size, 0, none⟩) 2 2] 25)).alloc (.cells #[.int .i64 k2, .int .i64 c2, .int .i64 r2, .int .u64 a2, .int .u64 v2, .slice p2 l2 q2, .int .i64 k1, .int .i64 c1, .int .i64 r1, .int .u64 a1, .int .u64 v1, .slice p1 l1 q1] 25)).alloc (.cells #[.int .i64 4, .int .i64 0, .int .i64 0, .int .u64 0, .int .u64 0, .slice (some ⟨w4.heap.size + 1 + 1, 0, none⟩) 2 2] 25)) 25 (w4.heap.size + 1) [.int .i64 4, .int .i64 0, .int .i64 0, .int .u64 0, .int .u64 0, .slice (some ⟨w4.heap.size, 0, none⟩) 2 2] from g2)
  have HG6 := Lib.hid (show Blk ((((w4.alloc (.cells #[.int .i64 k1, .int .i64 c1, .int .i64 r1, .int .u64 a1, .int .u64 v1, .slice p1 l1 q1, .int .i64 k2, .int .i64 c2, .int .i64 r2, .int .u64 a2, .int .u64 v2, .slice p2 l2 q2] 25)).alloc (.cells #[.int .i64 4, .int .i64 0, .int .i64 0, .int .u64 0, .int .u64 0, .slice (some ⟨w4.heap.size, 0, none⟩) 2 2] 25)).alloc (.cells #[.int .i64 k2, .int .i64 c2, .int .i64 r2, .int .u64 a2, .int .u64 v2, .slice p2 l2 q2, .int .i64 k1, .int .i64 c1, .int .i64 r1, .int .u64 a1, .int .u64 v1, .slice p1 l1 q1] 25)).alloc (.cells #[.int .i64 4, .int .i64 0, .int .i64 0, .int .u64 0, .int .u64 0, .slice (some ⟨w4.heap.size + 1 + 1, 0, none⟩) 2 2] 25)) 25 (w4.heap.size + 1 + 1 + 1) [.int .i64 4, .int .i64 0, .int .i64 0, .int .u64 0, .int .u64 0, .slice (some ⟨w4.heap.size + 1 + 1, 0, none⟩) 2 2] from g4)
  have HNA6 := Lib.hid (HNA4.out.below hb6)
  have HNB6 := Lib.hid (HNB4.out.below hb6)
  have HNO6 := Lib.hid (HNO4.out.below hb6)
  clear hb6 g1 g2 g3 g4 n0 n1 n2 n3 n4 n5 t0 t1 t2 t3 t4 t5 hl1 hl2 hlo
  generalize ((((w4.alloc (.cells #[.int .i64 k1, .int .i64 c1, .int .i64 r1, .int .u64 a1, .int .u64 v1, .slice p1 l1 q1, .int .i64 k2, .int .i64 c2, .int .i64 r2, .int .u64 a2, .int .u64 v2, .slice p2 l2 q2] 25)).alloc (.cells #[.int .i64 4, .int .i64 0, .int .i64 0, .int .u64 0, .int .u64 0, .slice (some ⟨w4.heap.size, 0, none⟩) 2 2] 25)).alloc (.cells #[.int .i64 k2, .int .i64 c2, .int .i64 r2, .int .u64 a2, .int .u64 v2, .slice p2 l2 q2, .int .i64 k1, .int .i64 c1, .int .i64 r1, .int .u64 a1, .int .u64 v1, .slice p1 l1 q1] 25)).alloc (.cells #[.int .i64 4, .int .i64 0, .int .i64 0, .int .u64 0, .int .u64 0, .slice (some ⟨w4.heap.size + 1 + 1, 0, none⟩) 2 2] 25)) = w6 at *
  obtain ⟨n0, n1, n2, n3, n4, n5⟩ := blk_cells6' (blk_drew HNA6.out)
  obtain ⟨t0, t1, t2, t3, t4, t5⟩ := blk_cells6' (blk_drew HNB6.out)
  refine wp_region_held_drew (S := (fun w' => w'.cell? ⟨w.heap.size, 0, none⟩ = some (.int .i64 k1) ∧ w'.cell? ⟨w.heap.size, 1, none⟩ = some (.int .i64 c1) ∧ w'.cell? ⟨w.heap.size, 2, none⟩ = some (.int .i64 r1) ∧ w'.cell? ⟨w.heap.size, 3, none⟩ = some (.int .u64 a1) ∧ w'.cell? ⟨w.heap.size, 4, none⟩ = some (.int .u64 v1) ∧ w'.cell? ⟨w.heap.size, 5, none⟩ = some (.slice p1 l1 q1) ∧ w'.cell? ⟨w.heap.size + 1, 0, none⟩ = some (.int .i64 k2) ∧ w'.cell? ⟨w.heap.size + 1, 1, none⟩ = some (.int .i64 c2) ∧ w'.cell? ⟨w.heap.size + 1, 2, none⟩ = some (.int .i64 r2) ∧ w'.cell? ⟨w.heap.size + 1, 3, none⟩ = some (.int .u64 a2) ∧ w'.cell? ⟨w.heap.size + 1, 4, none⟩ = some (.int .u64 v2) ∧ w'.cell? ⟨w.heap.size + 1, 5, none⟩ = some (.slice p2 l2 q2))) (by kernel_rfl) (by (try dsimp only); refine ⟨?_, ?_, ?_, ?_, ?_, ?_, ?_, ?_, ?_, ?_, ?_, ?_⟩ <;> (repeat (first | assumption | refine cell_alloc ?_ _))) (fun hHeld => ?_)
  refine wpAnyH_take (i := 0) (oi := ⟨some 30, _, _, _, _, _⟩) (v := ?_) rfl (by kernel_rfl) (by kernel_rfl) (by kernel_rfl) (fun _ _ _ h => h) (Or.inl ⟨by rfl, ?_⟩) (by assumption) ?_
  rotate_left
  · (intro w hSw; (try dsimp only at hSw); go_simp; try with_reducible rfl)
  simp only [Act.put, List.setIfInBounds_toArray, List.set_cons_zero, List.set_cons_succ]
  refine wpAnyH_take (i := 3) (oi := ⟨some 33, _, _, _, _, _⟩) (v := ?_) rfl (by kernel_rfl) (by kernel_rfl) (by kernel_rfl) (fun _ _ _ h => h) (Or.inl ⟨by rfl, ?_⟩) (by assumption) ?_
  rotate_left
  · (intro w hSw; (try dsimp only at hSw); go_simp; try with_reducible rfl)
  simp only [Act.put, List.setIfInBounds_toArray, List.set_cons_zero, List.set_cons_succ]
  clear hHeld n0 n1 n2 n3 n4 n5 t0 t1 t2 t3 t4 t5
  refine inv_at (J0 := (fun a0 l a w' => ∃ (b1 b2 b4 b5 b6 b7 b8 b9 : Bool) (x31 x32 x34 x35 x9 x10 : Value) (y9 y10 h9 h10 : Nat), l = #[true, b1, b2, true, b4, b5, b6, b7, b8, b9] ∧ a = ((((((a0.put (some 31) x31).put (some 32) x32).put (some 34) x34).put (some 35) x35).put (some 9) x9).put (some 10) x10) ∧ Below w6.heap.size w6 w' ∧
      (b8 = true → b6 = true) ∧ (b9 = true → b7 = true) ∧ (b1 = true → x31 = .slice (some ⟨y9, 0, none⟩) 1 1 ∧ w6.heap.size ≤ y9 ∧ Blk w' 25 y9 [.int .i64 k1, .int .i64 c1, .int .i64 r1, .int .u64 a1, .int .u64 v1, .slice p1 l1 q1]) ∧ (b4 = true → x34 = .slice (some ⟨y10, 0, none⟩) 1 1 ∧ w6.heap.size ≤ y10 ∧ Blk w' 25 y10 [.int .i64 k2, .int .i64 c2, .int .i64 r2, .int .u64 a2, .int .u64 v2, .slice p2 l2 q2])
      ∧ (b2 = true → b1 = true ∧ x32 = .agg ([.int .i64 6, .int .i64 0, .int .i64 0, .int .u64 0, .int .u64 0, x31] : List Value).toArray) ∧ (b5 = true → b4 = true ∧ x35 = .agg ([.int .i64 6, .int .i64 0, .int .i64 0, .int .u64 0, .int .u64 0, x34] : List Value).toArray)
      ∧ (b6 = true → x9 = .pointer (some ⟨h9, 0, none⟩) ∧ w6.heap.size ≤ h9 ∧ ∃ z : List Value, z.length = 6 ∧ Blk w' 25 h9 z ∧ (b8 = true → b2 = true ∧ z = [.int .i64 6, .int .i64 0, .int .i64 0, .int .u64 0, .int .u64 0, x31]))
      ∧ (b7 = true → x10 = .pointer (some ⟨h10, 0, none⟩) ∧ w6.heap.size ≤ h10 ∧ ∃ z : List Value, z.length = 6 ∧ Blk w' 25 h10 z ∧ (b9 = true → b5 = true ∧ z = [.int .i64 6, .int .i64 0, .int .i64 0, .int .u64 0, .int .u64 0, x34]))
      ∧ (b1 = true → b6 = true → y9 ≠ h9) ∧ (b1 = true → b7 = true → y9 ≠ h10) ∧ (b4 = true → b6 = true → y10 ≠ h9) ∧ (b4 = true → b7 = true → y10 ≠ h10) ∧ (b6 = true → b7 = true → h9 ≠ h10))) (by decide) ?_ ?_ ?_ ?_
  case refine_1 => 
    refine ⟨false, false, false, false, false, false, false, false, _, _, _, _, _, _, 0, 0, 0, 0, rfl, rfl, below_drewN (Below.refl _ _) 1, ?_⟩
    simp
  case refine_2 =>
    rintro l a w' ⟨b1, b2, b4, b5, b6, b7, b8, b9, x31, x32, x34, x35, x9, x10, y9, y10, h9, h10, rfl, rfl, hb, _⟩
    have HX := HNA6.out.below hb
    have HY := HNB6.out.below hb
    obtain ⟨n0, n1, n2, n3, n4, n5⟩ := blk_cells6' HX
    obtain ⟨t0, t1, t2, t3, t4, t5⟩ := blk_cells6' HY
    exact ⟨n0, n1, n2, n3, n4, n5, t0, t1, t2, t3, t4, t5⟩
  case refine_3 =>
    rintro l a w' ⟨b1, b2, b4, b5, b6, b7, b8, b9, x31, x32, x34, x35, x9, x10, y9, y10, h9, h10, rfl, rfl, hb, e8, e9, f1, f4, f2, f5, f6, f7, d1, d2, d3, d4, d5⟩ hr
    obtain ⟨rfl, rfl, rfl, rfl, rfl, rfl, rfl, rfl⟩ := ready_all (by kernel_rfl) hr
    obtain ⟨rfl, hy9, ky9⟩ := f1 rfl
    obtain ⟨rfl, hy10, ky10⟩ := f4 rfl
    obtain ⟨_, rfl⟩ := f2 rfl
    obtain ⟨_, rfl⟩ := f5 rfl
    obtain ⟨rfl, hh9, z9, _, kh9, g8⟩ := f6 rfl
    obtain ⟨rfl, hh10, z10, _, kh10, g9⟩ := f7 rfl
    obtain ⟨_, rfl⟩ := g8 rfl
    obtain ⟨_, rfl⟩ := g9 rfl
    clear e8 e9 f1 f4 f2 f5 f6 f7 d1 d2 d3 d4 d5 g8 g9 hr
    simp only [Act.put, List.setIfInBounds_toArray, List.set_cons_zero, List.set_cons_succ]
    have HB7 := Lib.hid (below_trans HB6.out hb)
    have HP7 := Lib.hid (HP6.out.below hb)
    have HQ7 := Lib.hid (HQ6.out.below hb)
    have HO7 := Lib.hid (HO6.out.below hb)
    have HA7 := Lib.hid (HA6.out.below hb)
    have HT7 := Lib.hid (HT6.out.below hb)
    have HE7 := Lib.hid (HE6.out.below hb)
    have HG7 := Lib.hid (HG6.out.below hb)
    have HNO7 := Lib.hid (HNO6.out.below hb)
    have HX7 := Lib.hid (at_one 6 (by decide) trivial rfl ky9 HP7.out)
    have HY7 := Lib.hid (at_one 6 (by decide) trivial rfl ky10 HQ7.out)
    obtain ⟨n0, n1, n2, n3, n4, n5⟩ := blk_cells6' kh9
    obtain ⟨t0, t1, t2, t3, t4, t5⟩ := blk_cells6' kh10
    clear HNA6 HNB6 HB6 HP6 HQ6 HO6 HA6 HT6 HE6 HG6 HNO6 hb ky9 ky10 kh9 kh10
    go_upto_region 9 with fail
    have hb8 := below_alloc (below_alloc (Below.refl w'.heap.size w') (.cells #[.int .i64 6, .int .i64 0, .int .i64 0, .int .u64 0, .int .u64 0, .slice (some ⟨y9, 0, none⟩) 1 1, .int .i64 6, .int .i64 0, .int .i64 0, .int .u64 0, .int .u64 0, .slice (some ⟨y10, 0, none⟩) 1 1] 25)) (.cells #[.int .i64 5, .int .i64 0, .int .i64 0, .int .u64 0, .int .u64 0, .slice (some ⟨w'.heap.size, 0, none⟩) 2 2] 25)
    have g1 := Blk.alloc (heap_newO w' (.cells #[.int .i64 6, .int .i64 0, .int .i64 0, .int .u64 0, .int .u64 0, .slice (some ⟨y9, 0, none⟩) 1 1, .int .i64 6, .int .i64 0, .int .i64 0, .int .u64 0, .int .u64 0, .slice (some ⟨y10, 0, none⟩) 1 1] 25) : Blk (w'.alloc (.cells #[.int .i64 6, .int .i64 0, .int .i64 0, .int .u64 0, .int .u64 0, .slice (some ⟨y9, 0, none⟩) 1 1, .int .i64 6, .int .i64 0, .int .i64 0, .int .u64 0, .int .u64 0, .slice (some ⟨y10, 0, none⟩) 1 1] 25)) 25 w'.heap.size [.int .i64 6, .int .i64 0, .int .i64 0, .int .u64 0, .int .u64 0, .slice (some ⟨y9, 0, none⟩) 1 1, .int .i64 6, .int .i64 0, .int .i64 0, .int .u64 0, .int .u64 0, .slice (some ⟨y10, 0, none⟩) 1 1]) (.cells #[.int .i64 5, .int .i64 0, .int .i64 0, .int .u64 0, .int .u64 0, .slice (some ⟨w'.heap.size, 0, none⟩) 2 2] 25)
    have g2 := (heap_newO (w'.alloc (.cells #[.int .i64 6, .int .i64 0, .int .i64 0, .int .u64 0, .int .u64 0, .slice (some ⟨y9, 0, none⟩) 1 1, .int .i64 6, .int .i64 0, .int .i64 0, .int .u64 0, .int .u64 0, .slice (some ⟨y10, 0, none⟩) 1 1] 25)) (.cells #[.int .i64 5, .int .i64 0, .int .i64 0, .int .u64 0, .int .u64 0, .slice (some ⟨w'.heap.size, 0, none⟩) 2 2] 25) : Blk ((w'.alloc (.cells #[.int .i64 6, .int .i64 0, .int .i64 0, .int .u64 0, .int .u64 0, .slice (some ⟨y9, 0, none⟩) 1 1, .int .i64 6, .int .i64 0, .int .i64 0, .int .u64 0, .int .u64 0, .slice (some ⟨y10, 0, none⟩) 1 1] 25)).alloc (.cells #[.int .i64 5, .int .i64 0, .int .i64 0, .int .u64 0, .int .u64 0, .slice (some ⟨w'.heap.size, 0, none⟩) 2 2] 25)) 25 _ [.int .i64 5, .int .i64 0, .int .i64 0, .int .u64 0, .int .u64 0, .slice (some ⟨w'.heap.size, 0, none⟩) 2 2])
    rw [show (w'.alloc (.cells #[.int .i64 6, .int .i64 0, .int .i64 0, .int .u64 0, .int .u64 0, .slice (some ⟨y9, 0, none⟩) 1 1, .int .i64 6, .int .i64 0, .int .i64 0, .int .u64 0, .int .u64 0, .slice (some ⟨y10, 0, none⟩) 1 1] 25)).heap.size = w'.heap.size + 1 by simp] at g2
    have HB8 := Lib.hid (below_trans HB7.out hb8)
    have HO8 := Lib.hid (HO7.out.below hb8)
    have HA8 := Lib.hid (HA7.out.below hb8)
    have HT8 := Lib.hid (HT7.out.below hb8)
    have HR8 := Lib.hid (at_two 5 (by decide) trivial rfl rfl g1 (HX7.out.below hb8) (HY7.out.below hb8))
    have HE8 := Lib.hid (HE7.out.below hb8)
    have HG8 := Lib.hid (HG7.out.below hb8)
    have HNO8 := Lib.hid (HNO7.out.below hb8)
    have HF8 := Lib.hid g2
    clear hb8 g1 g2 n0 n1 n2 n3 n4 n5 t0 t1 t2 t3 t4 t5 HB7 HP7 HQ7 HO7 HA7 HT7 HE7 HG7 HNO7 HX7 HY7 HB4 HA4 HT4 HO4 HNA4 HNB4 HNO4
    generalize hw8 : ((w'.alloc (.cells #[.int .i64 6, .int .i64 0, .int .i64 0, .int .u64 0, .int .u64 0, .slice (some ⟨y9, 0, none⟩) 1 1, .int .i64 6, .int .i64 0, .int .i64 0, .int .u64 0, .int .u64 0, .slice (some ⟨y10, 0, none⟩) 1 1] 25)).alloc (.cells #[.int .i64 5, .int .i64 0, .int .i64 0, .int .u64 0, .int .u64 0, .slice (some ⟨w'.heap.size, 0, none⟩) 2 2] 25)) = w8 at *
    have HCA := Lib.hid (fun (W : World) (cs os : List Value) (hA : CT.At W (fun _ => True) (.mk 4 0 0 0 0 [a, b]) cs) (hO : OutAt W o os) => holds_any o _ W _ cs os hA hO)
    have HCR := Lib.hid (fun (W : World) (cs os : List Value) (hA : CT.At W (fun _ => True) (.mk 5 0 0 0 0 [.mk 6 0 0 0 0 [a], .mk 6 0 0 0 0 [b]]) cs) (hO : OutAt W o os) => holds_any o _ W _ cs os hA hO)
    have HCT := Lib.hid (fun (W : World) (cs os : List Value) (hA : CT.At W (fun _ => True) (.mk 4 0 0 0 0 [b, a]) cs) (hO : OutAt W o os) => holds_any o _ W _ cs os hA hO)
    have HE1 := holds_or o a b
    have HE2 := holds_turned o a b
    rw [HE1] at HCR
    rw [HE2] at HCT
    generalize holdsT o (.mk 4 0 0 0 0 [a, b]) = X at *
    clear HE1 HE2
    obtain ⟨e0, e1, e2, e3, e4, e5⟩ := blk_cells6' HE8.out
    obtain ⟨f0, f1, f2, f3, f4, f5⟩ := blk_cells6' HF8.out
    obtain ⟨g0, g1, g2, g3, g4, g5⟩ := blk_cells6' HG8.out
    have u0 := HNO8.out.cell 0
    have u1 := HNO8.out.cell 1
    have u2 := HNO8.out.cell 2
    simp only [List.getElem?_cons_zero, List.getElem?_cons_succ] at u0 u1 u2
    generalize hP11 : w'.heap.size = P11 at *
    refine wp_region_held_drew (S := (fun v => v.cell? ⟨w4.heap.size + 1, 0, none⟩ = some (.int .i64 4) ∧ v.cell? ⟨w4.heap.size + 1, 1, none⟩ = some (.int .i64 0) ∧ v.cell? ⟨w4.heap.size + 1, 2, none⟩ = some (.int .i64 0) ∧ v.cell? ⟨w4.heap.size + 1, 3, none⟩ = some (.int .u64 0) ∧ v.cell? ⟨w4.heap.size + 1, 4, none⟩ = some (.int .u64 0) ∧ v.cell? ⟨w4.heap.size + 1, 5, none⟩ = some (.slice (some ⟨w4.heap.size, 0, none⟩) 2 2) ∧ v.cell? ⟨P11 + 1, 0, none⟩ = some (.int .i64 5) ∧ v.cell? ⟨P11 + 1, 1, none⟩ = some (.int .i64 0) ∧ v.cell? ⟨P11 + 1, 2, none⟩ = some (.int .i64 0) ∧ v.cell? ⟨P11 + 1, 3, none⟩ = some (.int .u64 0) ∧ v.cell? ⟨P11 + 1, 4, none⟩ = some (.int .u64 0) ∧ v.cell? ⟨P11 + 1, 5, none⟩ = some (.slice (some ⟨P11, 0, none⟩) 2 2) ∧ v.cell? ⟨w4.heap.size + 1 + 1 + 1, 0, none⟩ = some (.int .i64 4) ∧ v.cell? ⟨w4.heap.size + 1 + 1 + 1, 1, none⟩ = some (.int .i64 0) ∧ v.cell? ⟨w4.heap.size + 1 + 1 + 1, 2, none⟩ = some (.int .i64 0) ∧ v.cell? ⟨w4.heap.size + 1 + 1 + 1, 3, none⟩ = some (.int .u64 0) ∧ v.cell? ⟨w4.heap.size + 1 + 1 + 1, 4, none⟩ = some (.int .u64 0) ∧ v.cell? ⟨w4.heap.size + 1 + 1 + 1, 5, none⟩ = some (.slice (some ⟨w4.heap.size + 1 + 1, 0, none⟩) 2 2) ∧ v.cell? ⟨w.heap.size + 2, 0, none⟩ = some (.slice s1 m1 d1) ∧ v.cell? ⟨w.heap.size + 2, 1, none⟩ = some (.slice s2 m2 d2) ∧ v.cell? ⟨w.heap.size + 2, 2, none⟩ = some (.slice s3 m3 d3))) (by kernel_rfl) (by (try dsimp only); exact ⟨e0, e1, e2, e3, e4, e5, f0, f1, f2, f3, f4, f5, g0, g1, g2, g3, g4, g5, u0, u1, u2⟩) (fun hHeld => ?_)
    refine wpAnyH_take (i := 0) (oi := ⟨some 40, _, _, _, _, _⟩) (v := ?_) rfl (by kernel_rfl) (by kernel_rfl) (by kernel_rfl) (fun _ _ _ h => h) (Or.inl ⟨by rfl, ?_⟩) (by assumption) ?_
    rotate_left
    · (intro w hSw; (try dsimp only at hSw); go_simp; try with_reducible rfl)
    simp only [Act.put, List.setIfInBounds_toArray, List.set_cons_zero, List.set_cons_succ]
    refine wpAnyH_take (i := 1) (oi := ⟨some 41, _, _, _, _, _⟩) (v := ?_) rfl (by kernel_rfl) (by kernel_rfl) (by kernel_rfl) (fun _ _ _ h => h) (Or.inl ⟨by rfl, ?_⟩) (by assumption) ?_
    rotate_left
    · (intro w hSw; (try dsimp only at hSw); go_simp; try with_reducible rfl)
    simp only [Act.put, List.setIfInBounds_toArray, List.set_cons_zero, List.set_cons_succ]
    refine wpAnyH_take (i := 3) (oi := ⟨some 43, _, _, _, _, _⟩) (v := ?_) rfl (by kernel_rfl) (by kernel_rfl) (by kernel_rfl) (fun _ _ _ h => h) (Or.inl ⟨by rfl, ?_⟩) (by assumption) ?_
    rotate_left
    · (intro w hSw; (try dsimp only at hSw); go_simp; try with_reducible rfl)
    simp only [Act.put, List.setIfInBounds_toArray, List.set_cons_zero, List.set_cons_succ]
    refine wpAnyH_take (i := 4) (oi := ⟨some 44, _, _, _, _, _⟩) (v := ?_) rfl (by kernel_rfl) (by kernel_rfl) (by kernel_rfl) (fun _ _ _ h => h) (Or.inl ⟨by rfl, ?_⟩) (by assumption) ?_
    rotate_left
    · (intro w hSw; (try dsimp only at hSw); go_simp; try with_reducible rfl)
    simp only [Act.put, List.setIfInBounds_toArray, List.set_cons_zero, List.set_cons_succ]
    refine wpAnyH_ready (rs := [2]) (by kernel_rfl) (by simp) ?_
    refine AllReadyH.cons (o := ⟨some 42, _, _, _, _, _⟩) rfl (fun K hK => ?_) AllReadyH.nil
    go_simp
    go_at_call 19; refine (HCA.out _ _ _ (CT.At.drew HA8.out) (OutAt.drew HO8.out)).mono ?_; rintro e w21 ⟨rfl, hb⟩; have HA21 := Lib.hid (CT.At.below (CT.At.drew HA8.out) hb); have HR21 := Lib.hid (CT.At.below (CT.At.drew HR8.out) hb); have HT21 := Lib.hid (CT.At.below (CT.At.drew HT8.out) hb); have HO21 := Lib.hid (OutAt.below (OutAt.drew HO8.out) hb); have HB21 := Lib.hid (below_trans HB8.out.drew hb); have e0 := cell_below_drew e0 hb; have e1 := cell_below_drew e1 hb; have e2 := cell_below_drew e2 hb; have e3 := cell_below_drew e3 hb; have e4 := cell_below_drew e4 hb; have e5 := cell_below_drew e5 hb; have f0 := cell_below_drew f0 hb; have f1 := cell_below_drew f1 hb; have f2 := cell_below_drew f2 hb; have f3 := cell_below_drew f3 hb; have f4 := cell_below_drew f4 hb; have f5 := cell_below_drew f5 hb; have g0 := cell_below_drew g0 hb; have g1 := cell_below_drew g1 hb; have g2 := cell_below_drew g2 hb; have g3 := cell_below_drew g3 hb; have g4 := cell_below_drew g4 hb; have g5 := cell_below_drew g5 hb; have u0 := cell_below_drew u0 hb; have u1 := cell_below_drew u1 hb; have u2 := cell_below_drew u2 hb; clear hb
    refine hK.out _ _ (by (try dsimp only); exact ⟨e0, e1, e2, e3, e4, e5, f0, f1, f2, f3, f4, f5, g0, g1, g2, g3, g4, g5, u0, u1, u2⟩) ?_
    clear hK K hHeld
    intro hHeld
    try simp only [Act.put, List.setIfInBounds_toArray, List.set_cons_zero, List.set_cons_succ]
    refine wpAnyH_ready (rs := [5]) (by kernel_rfl) (by simp) ?_
    refine AllReadyH.cons (o := ⟨some 45, _, _, _, _, _⟩) rfl (fun K hK => ?_) AllReadyH.nil
    go_simp
    go_at_call 19; refine (HCR.out _ _ _ HR21.out HO21.out).mono ?_; rintro e w22 ⟨rfl, hb⟩; have HA22 := Lib.hid (CT.At.below HA21.out hb); have HR22 := Lib.hid (CT.At.below HR21.out hb); have HT22 := Lib.hid (CT.At.below HT21.out hb); have HO22 := Lib.hid (OutAt.below HO21.out hb); have HB22 := Lib.hid (below_trans HB21.out hb); have e0 := cell_below e0 hb; have e1 := cell_below e1 hb; have e2 := cell_below e2 hb; have e3 := cell_below e3 hb; have e4 := cell_below e4 hb; have e5 := cell_below e5 hb; have f0 := cell_below f0 hb; have f1 := cell_below f1 hb; have f2 := cell_below f2 hb; have f3 := cell_below f3 hb; have f4 := cell_below f4 hb; have f5 := cell_below f5 hb; have g0 := cell_below g0 hb; have g1 := cell_below g1 hb; have g2 := cell_below g2 hb; have g3 := cell_below g3 hb; have g4 := cell_below g4 hb; have g5 := cell_below g5 hb; have u0 := cell_below u0 hb; have u1 := cell_below u1 hb; have u2 := cell_below u2 hb; clear hb
    refine hK.out _ _ (by (try dsimp only); exact ⟨e0, e1, e2, e3, e4, e5, f0, f1, f2, f3, f4, f5, g0, g1, g2, g3, g4, g5, u0, u1, u2⟩) ?_
    clear hK K hHeld
    intro hHeld
    try simp only [Act.put, List.setIfInBounds_toArray, List.set_cons_zero, List.set_cons_succ]
    refine wpAnyH_take (i := 6) (oi := ⟨some 46, _, _, _, _, _⟩) (v := ?_) rfl (by kernel_rfl) (by kernel_rfl) (by kernel_rfl) (fun _ _ _ h => h) (Or.inl ⟨by rfl, ?_⟩) (by assumption) ?_
    rotate_left
    · (intro w hSw; (try dsimp only at hSw); go_simp; try with_reducible rfl)
    simp only [Act.put, List.setIfInBounds_toArray, List.set_cons_zero, List.set_cons_succ]
    refine wpAnyH_take (i := 7) (oi := ⟨some 47, _, _, _, _, _⟩) (v := ?_) rfl (by kernel_rfl) (by kernel_rfl) (by kernel_rfl) (fun _ _ _ h => h) (Or.inl ⟨by rfl, ?_⟩) (by assumption) ?_
    rotate_left
    · (intro w hSw; (try dsimp only at hSw); go_simp; try with_reducible rfl)
    simp only [Act.put, List.setIfInBounds_toArray, List.set_cons_zero, List.set_cons_succ]
    refine wpAnyH_take (i := 8) (oi := ⟨some 48, _, _, _, _, _⟩) (v := ?_) rfl (by kernel_rfl) (by kernel_rfl) (by kernel_rfl) (fun _ _ _ h => h) (Or.inl ⟨by rfl, ?_⟩) (by assumption) ?_
    rotate_left
    · (intro w hSw; (try dsimp only at hSw); go_simp; try with_reducible rfl)
    simp only [Act.put, List.setIfInBounds_toArray, List.set_cons_zero, List.set_cons_succ]
    refine wpAnyH_take (i := 9) (oi := ⟨some 49, _, _, _, _, _⟩) (v := ?_) rfl (by kernel_rfl) (by kernel_rfl) (by kernel_rfl) (fun _ _ _ h => h) (Or.inl ⟨by rfl, ?_⟩) (by assumption) ?_
    rotate_left
    · (intro w hSw; (try dsimp only at hSw); go_simp; try with_reducible rfl)
    simp only [Act.put, List.setIfInBounds_toArray, List.set_cons_zero, List.set_cons_succ]
    refine wpAnyH_take (i := 10) (oi := ⟨some 50, _, _, _, _, _⟩) (v := ?_) rfl (by kernel_rfl) (by kernel_rfl) (by kernel_rfl) (fun _ _ _ h => h) (Or.inl ⟨by rfl, ?_⟩) (by assumption) ?_
    rotate_left
    · (intro w hSw; (try dsimp only at hSw); go_simp; try with_reducible rfl)
    simp only [Act.put, List.setIfInBounds_toArray, List.set_cons_zero, List.set_cons_succ]
    refine wpAnyH_take (i := 12) (oi := ⟨some 52, _, _, _, _, _⟩) (v := ?_) rfl (by kernel_rfl) (by kernel_rfl) (by kernel_rfl) (fun _ _ _ h => h) (Or.inl ⟨by rfl, ?_⟩) (by assumption) ?_
    rotate_left
    · (intro w hSw; (try dsimp only at hSw); go_simp; try with_reducible rfl)
    simp only [Act.put, List.setIfInBounds_toArray, List.set_cons_zero, List.set_cons_succ]
    refine wpAnyH_take (i := 13) (oi := ⟨some 53, _, _, _, _, _⟩) (v := ?_) rfl (by kernel_rfl) (by kernel_rfl) (by kernel_rfl) (fun _ _ _ h => h) (Or.inl ⟨by rfl, ?_⟩) (by assumption) ?_
    rotate_left
    · (intro w hSw; (try dsimp only at hSw); go_simp; try with_reducible rfl)
    simp only [Act.put, List.setIfInBounds_toArray, List.set_cons_zero, List.set_cons_succ]
    refine wpAnyH_ready (rs := [11]) (by kernel_rfl) (by simp) ?_
    refine AllReadyH.cons (o := ⟨some 51, _, _, _, _, _⟩) rfl (fun K hK => ?_) AllReadyH.nil
    go_simp
    go_at_call 19; refine (HCA.out _ _ _ HA22.out HO22.out).mono ?_; rintro e w23 ⟨rfl, hb⟩; have HA23 := Lib.hid (CT.At.below HA22.out hb); have HR23 := Lib.hid (CT.At.below HR22.out hb); have HT23 := Lib.hid (CT.At.below HT22.out hb); have HO23 := Lib.hid (OutAt.below HO22.out hb); have HB23 := Lib.hid (below_trans HB22.out hb); have e0 := cell_below e0 hb; have e1 := cell_below e1 hb; have e2 := cell_below e2 hb; have e3 := cell_below e3 hb; have e4 := cell_below e4 hb; have e5 := cell_below e5 hb; have f0 := cell_below f0 hb; have f1 := cell_below f1 hb; have f2 := cell_below f2 hb; have f3 := cell_below f3 hb; have f4 := cell_below f4 hb; have f5 := cell_below f5 hb; have g0 := cell_below g0 hb; have g1 := cell_below g1 hb; have g2 := cell_below g2 hb; have g3 := cell_below g3 hb; have g4 := cell_below g4 hb; have g5 := cell_below g5 hb; have u0 := cell_below u0 hb; have u1 := cell_below u1 hb; have u2 := cell_below u2 hb; clear hb
    refine hK.out _ _ (by (try dsimp only); exact ⟨e0, e1, e2, e3, e4, e5, f0, f1, f2, f3, f4, f5, g0, g1, g2, g3, g4, g5, u0, u1, u2⟩) ?_
    clear hK K hHeld
    intro hHeld
    try simp only [Act.put, List.setIfInBounds_toArray, List.set_cons_zero, List.set_cons_succ]
    refine wpAnyH_ready (rs := [14]) (by kernel_rfl) (by simp) ?_
    refine AllReadyH.cons (o := ⟨some 54, _, _, _, _, _⟩) rfl (fun K hK => ?_) AllReadyH.nil
    go_simp
    go_at_call 19; refine (HCT.out _ _ _ HT23.out HO23.out).mono ?_; rintro e w24 ⟨rfl, hb⟩; have HA24 := Lib.hid (CT.At.below HA23.out hb); have HR24 := Lib.hid (CT.At.below HR23.out hb); have HT24 := Lib.hid (CT.At.below HT23.out hb); have HO24 := Lib.hid (OutAt.below HO23.out hb); have HB24 := Lib.hid (below_trans HB23.out hb); have e0 := cell_below e0 hb; have e1 := cell_below e1 hb; have e2 := cell_below e2 hb; have e3 := cell_below e3 hb; have e4 := cell_below e4 hb; have e5 := cell_below e5 hb; have f0 := cell_below f0 hb; have f1 := cell_below f1 hb; have f2 := cell_below f2 hb; have f3 := cell_below f3 hb; have f4 := cell_below f4 hb; have f5 := cell_below f5 hb; have g0 := cell_below g0 hb; have g1 := cell_below g1 hb; have g2 := cell_below g2 hb; have g3 := cell_below g3 hb; have g4 := cell_below g4 hb; have g5 := cell_below g5 hb; have u0 := cell_below u0 hb; have u1 := cell_below u1 hb; have u2 := cell_below u2 hb; clear hb
    refine hK.out _ _ (by (try dsimp only); exact ⟨e0, e1, e2, e3, e4, e5, f0, f1, f2, f3, f4, f5, g0, g1, g2, g3, g4, g5, u0, u1, u2⟩) ?_
    clear hK K hHeld
    intro hHeld
    try simp only [Act.put, List.setIfInBounds_toArray, List.set_cons_zero, List.set_cons_succ]
    refine wpAnyH_take (i := 15) (oi := ⟨some 55, _, _, _, _, _⟩) (v := ?_) rfl (by kernel_rfl) (by kernel_rfl) (by kernel_rfl) (fun _ _ _ h => h) (Or.inl ⟨by rfl, ?_⟩) (by assumption) ?_
    rotate_left
    · (intro w hSw; (try dsimp only at hSw); go_simp; try with_reducible rfl)
    simp only [Act.put, List.setIfInBounds_toArray, List.set_cons_zero, List.set_cons_succ]
    refine wpAnyH_take (i := 16) (oi := ⟨some 56, _, _, _, _, _⟩) (v := ?_) rfl (by kernel_rfl) (by kernel_rfl) (by kernel_rfl) (fun _ _ _ h => h) (Or.inl ⟨by rfl, ?_⟩) (by assumption) ?_
    rotate_left
    · (intro w hSw; (try dsimp only at hSw); go_simp; try with_reducible rfl)
    simp only [Act.put, List.setIfInBounds_toArray, List.set_cons_zero, List.set_cons_succ]
    refine wpAnyH_take (i := 17) (oi := ⟨some 6, _, _, _, _, _⟩) (v := ?_) rfl (by kernel_rfl) (by kernel_rfl) (by kernel_rfl) (fun _ _ _ h => h) (Or.inl ⟨by rfl, ?_⟩) (by assumption) ?_
    rotate_left
    · (intro w hSw; (try dsimp only at hSw); go_simp; try with_reducible rfl)
    simp only [Act.put, List.setIfInBounds_toArray, List.set_cons_zero, List.set_cons_succ]
    refine wpAnyH_done (by kernel_rfl) ?_ _

    go_wp2_with fail
    go_ret
    exact ⟨rfl, HB24.out⟩
  case refine_4 =>
    rintro l a w' ⟨b1, b2, b4, b5, b6, b7, b8, b9, x31, x32, x34, x35, x9, x10, y9, y10, h9, h10, rfl, rfl, hb, e8, e9, f1, f4, f2, f5, f6, f7, d1, d2, d3, d4, d5⟩ i hi
    have hun := (mem_ready.1 hi).1
    have hlt : i < 10 := by obtain ⟨_, o, ho, _⟩ := mem_ready.1 hi; exact (Array.getElem?_eq_some_iff.1 ho).1
    have hsz := hb.size
    match i, hlt with
    | 0, _ => simp at hun
    | 3, _ => simp at hun
    | 1, _ =>
      obtain rfl : b1 = false := by simpa using hun
      clear hi hun
      refine wpOp_step rfl (fun K hK => ?_)
      simp only [Act.put, List.setIfInBounds_toArray, List.set_cons_zero, List.set_cons_succ]
      go_simp
      refine hK _ _ ⟨true, b2, b4, b5, b6, b7, b8, b9, _, x32, x34, x35, x9, x10, w'.heap.size, y10, h9, h10, rfl, rfl, below_alloc hb _, e8, e9, fun _ => ⟨rfl, hsz, heap_newO _ _⟩, fun h => ⟨(f4 h).1, (f4 h).2.1, (f4 h).2.2.alloc _⟩, fun h => absurd (f2 h).1 (by simp), f5, fun h => ?_, fun h => ?_, fun _ h => ?_, fun _ h => ?_, d3, d4, d5⟩
      · obtain ⟨e, hs, z, hz, hk, h8⟩ := f6 h
        exact ⟨e, hs, z, hz, hk.alloc _, fun h => absurd (f2 (h8 h).1).1 (by simp)⟩
      · obtain ⟨e, hs, z, hz, hk, h9⟩ := f7 h
        exact ⟨e, hs, z, hz, hk.alloc _, h9⟩
      · obtain ⟨_, _, z, _, hk, _⟩ := f6 h; exact Nat.ne_of_gt hk.lt
      · obtain ⟨_, _, z, _, hk, _⟩ := f7 h; exact Nat.ne_of_gt hk.lt
    | 2, _ =>
      obtain rfl : b2 = false := by simpa using hun
      obtain rfl : b1 = true := ready_after hi _ rfl 1 (by kernel_rfl)
      clear hi hun
      obtain ⟨rfl, hs, hk⟩ := f1 rfl
      refine wpOp_step rfl (fun K hK => ?_)
      simp only [Act.put, List.setIfInBounds_toArray, List.set_cons_zero, List.set_cons_succ]
      go_simp
      refine hK _ _ ⟨true, true, b4, b5, b6, b7, b8, b9, _, _, x34, x35, x9, x10, y9, y10, h9, h10, rfl, rfl, hb, e8, e9, f1, f4, fun _ => ⟨rfl, rfl⟩, f5, fun h => ?_, f7, d1, d2, d3, d4, d5⟩
      obtain ⟨e, hs, z, hz, hk, h8⟩ := f6 h
      exact ⟨e, hs, z, hz, hk, fun h => ⟨rfl, (h8 h).2⟩⟩
    | 4, _ =>
      obtain rfl : b4 = false := by simpa using hun
      clear hi hun
      refine wpOp_step rfl (fun K hK => ?_)
      simp only [Act.put, List.setIfInBounds_toArray, List.set_cons_zero, List.set_cons_succ]
      go_simp
      refine hK _ _ ⟨b1, b2, true, b5, b6, b7, b8, b9, x31, x32, _, x35, x9, x10, y9, w'.heap.size, h9, h10, rfl, rfl, below_alloc hb _, e8, e9, fun h => ⟨(f1 h).1, (f1 h).2.1, (f1 h).2.2.alloc _⟩, fun _ => ⟨rfl, hsz, heap_newO _ _⟩, f2, fun h => absurd (f5 h).1 (by simp), fun h => ?_, fun h => ?_, d1, d2, fun _ h => ?_, fun _ h => ?_, d5⟩
      · obtain ⟨e, hs, z, hz, hk, h9⟩ := f6 h
        exact ⟨e, hs, z, hz, hk.alloc _, h9⟩
      · obtain ⟨e, hs, z, hz, hk, h8⟩ := f7 h
        exact ⟨e, hs, z, hz, hk.alloc _, fun h => absurd (f5 (h8 h).1).1 (by simp)⟩
      · obtain ⟨_, _, z, _, hk, _⟩ := f6 h; exact Nat.ne_of_gt hk.lt
      · obtain ⟨_, _, z, _, hk, _⟩ := f7 h; exact Nat.ne_of_gt hk.lt
    | 5, _ =>
      obtain rfl : b5 = false := by simpa using hun
      obtain rfl : b4 = true := ready_after hi _ rfl 4 (by kernel_rfl)
      clear hi hun
      obtain ⟨rfl, hs, hk⟩ := f4 rfl
      refine wpOp_step rfl (fun K hK => ?_)
      simp only [Act.put, List.setIfInBounds_toArray, List.set_cons_zero, List.set_cons_succ]
      go_simp
      refine hK _ _ ⟨b1, b2, true, true, b6, b7, b8, b9, x31, x32, _, _, x9, x10, y9, y10, h9, h10, rfl, rfl, hb, e8, e9, f1, f4, f2, fun _ => ⟨rfl, rfl⟩, f6, fun h => ?_, d1, d2, d3, d4, d5⟩
      obtain ⟨e, hs, z, hz, hk, h8⟩ := f7 h
      exact ⟨e, hs, z, hz, hk, fun h => ⟨rfl, (h8 h).2⟩⟩
    | 6, _ =>
      obtain rfl : b6 = false := by simpa using hun
      clear hi hun
      refine wpOp_step rfl (fun K hK => ?_)
      simp only [Act.put, List.setIfInBounds_toArray, List.set_cons_zero, List.set_cons_succ]
      go_simp
      refine hK _ _ ⟨b1, b2, b4, b5, true, b7, b8, b9, x31, x32, x34, x35, _, x10, y9, y10, w'.heap.size, h10, rfl, rfl, below_alloc hb _, fun _ => rfl, e9, fun h => ⟨(f1 h).1, (f1 h).2.1, (f1 h).2.2.alloc _⟩, fun h => ⟨(f4 h).1, (f4 h).2.1, (f4 h).2.2.alloc _⟩, f2, f5, fun _ => ⟨rfl, hsz, _, rfl, heap_newO _ _, fun h => absurd (e8 h) (by simp)⟩, fun h => ?_, fun h _ => Nat.ne_of_lt (f1 h).2.2.lt, d2, fun h _ => Nat.ne_of_lt (f4 h).2.2.lt, d4, fun _ h => ?_⟩
      · obtain ⟨e, hs, z, hz, hk, h9⟩ := f7 h
        exact ⟨e, hs, z, hz, hk.alloc _, h9⟩
      · obtain ⟨_, _, z, _, hk, _⟩ := f7 h; exact Nat.ne_of_gt hk.lt
    | 7, _ =>
      obtain rfl : b7 = false := by simpa using hun
      clear hi hun
      refine wpOp_step rfl (fun K hK => ?_)
      simp only [Act.put, List.setIfInBounds_toArray, List.set_cons_zero, List.set_cons_succ]
      go_simp
      refine hK _ _ ⟨b1, b2, b4, b5, b6, true, b8, b9, x31, x32, x34, x35, x9, _, y9, y10, h9, w'.heap.size, rfl, rfl, below_alloc hb _, e8, fun _ => rfl, fun h => ⟨(f1 h).1, (f1 h).2.1, (f1 h).2.2.alloc _⟩, fun h => ⟨(f4 h).1, (f4 h).2.1, (f4 h).2.2.alloc _⟩, f2, f5, fun h => ?_, fun _ => ⟨rfl, hsz, _, rfl, heap_newO _ _, fun h => absurd (e9 h) (by simp)⟩, d1, fun h _ => Nat.ne_of_lt (f1 h).2.2.lt, d3, fun h _ => Nat.ne_of_lt (f4 h).2.2.lt, fun h _ => ?_⟩
      · obtain ⟨e, hs, z, hz, hk, h9⟩ := f6 h
        exact ⟨e, hs, z, hz, hk.alloc _, h9⟩
      · obtain ⟨_, _, z, _, hk, _⟩ := f6 h; exact Nat.ne_of_lt hk.lt
    | 8, _ =>
      obtain rfl : b8 = false := by simpa using hun
      obtain rfl : b2 = true := ready_after hi _ rfl 2 (by kernel_rfl)
      obtain rfl : b6 = true := ready_after hi _ rfl 6 (by kernel_rfl)
      obtain rfl : b7 = true := ready_after hi _ rfl 7 (by kernel_rfl)
      clear hi hun
      obtain ⟨rfl, rfl⟩ := f2 rfl
      obtain ⟨rfl, hs9, k9⟩ := f1 rfl
      obtain ⟨rfl, _⟩ := f7 rfl
      obtain ⟨rfl, hs, z, hz, hk, _⟩ := f6 rfl
      obtain ⟨z0, z1, z2, z3, z4, z5, rfl⟩ := six_of hz
      have q0 := hk.free 0
      have q1 := hk.free 1
      have q2 := hk.free 2
      have q3 := hk.free 3
      have q4 := hk.free 4
      have q5 := hk.free 5
      obtain ⟨p0, p1, p2, p3, p4, p5⟩ := blk_cells6' hk
      refine wpOp_step rfl (fun K hK => ?_)
      simp only [Act.put, List.setIfInBounds_toArray, List.set_cons_zero, List.set_cons_succ]
      go_simp
      refine hK _ _ ⟨true, true, b4, b5, true, true, true, b9, .slice (some ⟨y9, 0, none⟩) 1 1, (.agg #[.int .i64 6, .int .i64 0, .int .i64 0, .int .u64 0, .int .u64 0, .slice (some ⟨y9, 0, none⟩) 1 1]), x34, x35, .pointer (some ⟨h9, 0, none⟩), .pointer (some ⟨h10, 0, none⟩), y9, y10, h9, h10, rfl, rfl, below_set6 hb hs _ _ _ _ _ _, fun _ => rfl, e9, fun _ => ⟨rfl, hs9, blk_other6 k9 (d1 rfl rfl) _ _ _ _ _ _⟩, fun h => ⟨(f4 h).1, (f4 h).2.1, blk_other6 (f4 h).2.2 (d3 h rfl) _ _ _ _ _ _⟩, fun _ => ⟨rfl, rfl⟩, f5, fun _ => ⟨rfl, hs, _, rfl, blk_set6 hk _ _ _ _ _ _, fun _ => ⟨rfl, rfl⟩⟩, fun h => ?_, d1, d2, d3, d4, d5⟩
      obtain ⟨e, hs, z, hz, hk, h9⟩ := f7 h
      exact ⟨e, hs, z, hz, blk_other6 hk (d5 rfl rfl).symm _ _ _ _ _ _, h9⟩
    | 9, _ =>
      obtain rfl : b9 = false := by simpa using hun
      obtain rfl : b5 = true := ready_after hi _ rfl 5 (by kernel_rfl)
      obtain rfl : b6 = true := ready_after hi _ rfl 6 (by kernel_rfl)
      obtain rfl : b7 = true := ready_after hi _ rfl 7 (by kernel_rfl)
      clear hi hun
      obtain ⟨rfl, rfl⟩ := f5 rfl
      obtain ⟨rfl, hs10, k10⟩ := f4 rfl
      obtain ⟨rfl, _⟩ := f6 rfl
      obtain ⟨rfl, hs, z, hz, hk, _⟩ := f7 rfl
      obtain ⟨z0, z1, z2, z3, z4, z5, rfl⟩ := six_of hz
      have q0 := hk.free 0
      have q1 := hk.free 1
      have q2 := hk.free 2
      have q3 := hk.free 3
      have q4 := hk.free 4
      have q5 := hk.free 5
      obtain ⟨p0, p1, p2, p3, p4, p5⟩ := blk_cells6' hk
      refine wpOp_step rfl (fun K hK => ?_)
      simp only [Act.put, List.setIfInBounds_toArray, List.set_cons_zero, List.set_cons_succ]
      go_simp
      refine hK _ _ ⟨b1, b2, true, true, true, true, b8, true, x31, x32, .slice (some ⟨y10, 0, none⟩) 1 1, (.agg #[.int .i64 6, .int .i64 0, .int .i64 0, .int .u64 0, .int .u64 0, .slice (some ⟨y10, 0, none⟩) 1 1]), .pointer (some ⟨h9, 0, none⟩), .pointer (some ⟨h10, 0, none⟩), y9, y10, h9, h10, rfl, rfl, below_set6 hb hs _ _ _ _ _ _, e8, fun _ => rfl, fun h => ⟨(f1 h).1, (f1 h).2.1, blk_other6 (f1 h).2.2 (d2 h rfl) _ _ _ _ _ _⟩, fun _ => ⟨rfl, hs10, blk_other6 k10 (d4 rfl rfl) _ _ _ _ _ _⟩, f2, fun _ => ⟨rfl, rfl⟩, fun h => ?_, fun _ => ⟨rfl, hs, _, rfl, blk_set6 hk _ _ _ _ _ _, fun _ => ⟨rfl, rfl⟩⟩, d1, d2, d3, d4, d5⟩
      obtain ⟨e, hs, z, hz, hk, h9⟩ := f6 h
      exact ⟨e, hs, z, hz, blk_other6 hk (d5 rfl rfl) _ _ _ _ _ _, h9⟩
    | n + 10, h => exact absurd h (by omega)

set_option maxRecDepth 100000 in
theorem lifted (os : Os) (started : os.Started) (H : Type) (enc : TypeId × Value → H) :
    ReturnsInHanded {} Try.checked os 5 .any (Rows.condTurnsSpec.pre6 enc Try.prog Try.f5 Rows.condTurnsRow.domain false) (Rows.condTurnsSpec.post enc Try.prog Try.f5 false true false false) := by
  refine returnsInHanded_of_change (C := Try.checked) own started (by kernel_rfl) Try.func5
    (ChangeSpec.witness6 (enc := enc) (C := Try.checked) false ⟨#[], #[.agg #[.int .i64 0, .int .i64 0, .int .i64 0, .int .u64 0, .int .u64 0, .slice none 0 0], .agg #[.int .i64 0, .int .i64 0, .int .i64 0, .int .u64 0, .int .u64 0, .slice none 0 0], .agg #[.slice none 0 0, .slice none 0 0, .slice none 0 0]], []⟩ 8 (by kernel_rfl) (by kernel_rfl) (by kernel_rfl) (by kernel_rfl)) ?_
  intro W base args ds gs before hval0 hW hcnd _
  have hval : ∀ (j : Nat) t v, Try.f5.params[j]? = some t → args[j]? = some v → Value.okWide Try.prog W .any base t v := hval0
  have hW' := hW
  obtain ⟨p, q, hA0, hV, rfl, hfz, hnd⟩ := hW
  have hA : DataW.TrodAll enc Try.prog W 0 (fun _ => true) true Try.f5.params.toList args.toList ds p := hA0
  rw [Try.params5] at hA hval
  obtain ⟨v0, vs0, d0, ds0, p0, q0, hargs, rfl, rfl, h0, r0⟩ := trodAll_cons hA
  obtain ⟨v1, vs1, d1, ds1, p1, q1, rfl, rfl, rfl, h1, r1⟩ := trodAll_cons r0
  obtain ⟨v2, vs2, d2, ds2, p2, q2, rfl, rfl, rfl, h2, r2⟩ := trodAll_cons r1
  obtain ⟨rfl, rfl, rfl⟩ := trodAll_nil r2
  obtain rfl : args = #[v0, v1, v2] := by cases args; simp_all
  obtain ⟨rfl, rfl⟩ := trodVars_none hV
  have k0 := h0
  have lt0 : ∀ x ∈ p0, x.block < W.heap.size := by obtain ⟨m, hm⟩ := k0; exact DataW.trod_lt m _ _ _ hm
  obtain ⟨t0, cs0, rfl, ht0⟩ := open_cond (hval 0 25 v0 rfl rfl) h0
  have k1 := h1
  have lt1 : ∀ x ∈ p1, x.block < W.heap.size := by obtain ⟨m, hm⟩ := k1; exact DataW.trod_lt m _ _ _ hm
  obtain ⟨t1, cs1, rfl, ht1⟩ := open_cond (hval 1 25 v1 rfl rfl) h1
  have k2 := h2
  have lt2 : ∀ x ∈ p2, x.block < W.heap.size := by obtain ⟨m, hm⟩ := k2; exact DataW.trod_lt m _ _ _ hm
  obtain ⟨o2, os2, rfl, ho2⟩ := open_out (hval 2 48 v2 rfl rfl) h2
  clear hA0 hval0
  refine (walk t0 cs0 t1 cs1 o2 os2 W ht0 ht1 ho2).mono fun e W' ⟨he, bel⟩ => ?_
  subst he
  exact ⟨_, rfl, _, _, _, [], _, [], hW', trodAll_mk1 (shut_bool Try.underlying4 _), (trodAll_cons_mk (Below.trod laidOut (by kernel_rfl) (of_decide_eq_true (by kernel_rfl)) k0 bel lt0) (trodAll_cons_mk (Below.trod laidOut (by kernel_rfl) (of_decide_eq_true (by kernel_rfl)) k1 bel lt1) (trodAll_cons_mk (Below.trod laidOut (by kernel_rfl) (of_decide_eq_true (by kernel_rfl)) k2 bel lt2) trodAll_mk0))), rfl, bel.frame _, fun h => by cases h⟩

theorem over : Rows.condTurnsRow.holds Try.pinned (OpenSpec.ofChange Rows.condTurnsSpec) :=
  OpenClaim.holds_of_wide 5 Try.f5 rfl rfl rfl rfl rfl rfl rfl ⟨rfl, rfl, rfl, rfl, rfl⟩ rfl rfl rfl rfl rfl (by kernel_rfl) Try.func5 (by kernel_rfl)
    (of_decide_eq_true (by kernel_rfl)) (by unfold Func.isWrapper; first | (rw [if_pos (by decide +kernel)]; kernel_rfl) | (rw [if_neg (by decide +kernel)]; exact ⟨rfl, rfl⟩))
    (fun os started H enc _ => lifted os started H enc)

theorem proved : Rows.CondTurnsSaid := over
#print axioms proved
end Go.Proofs.Yteepoohcdmjmhaa.condTurns
