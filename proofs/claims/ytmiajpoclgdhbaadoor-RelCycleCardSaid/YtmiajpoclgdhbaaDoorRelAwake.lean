/- awake of layer 1. -/
import Derived.Test.YtmiajpoclgdhbaaDoorRelOrder
namespace Go.Proofs.YtmiajpoclgdhbaaDoor
open Go.RowKit
set_option linter.unusedVariables false

def AWP : List (Int × Int) := [(0, 1), (1, 2)]
theorem aw_ok : AWP.all (okP 3) = true := by decide
theorem aw_has : hasZ (closW 3 (ofW 3 AWP)) 3 0 2 = true := by kernel_rfl
theorem aw_ord : orderW 3 (ofW 3 AWP) = some [0, 1, 2] := by kernel_rfl
theorem aw_wf : WF 3 (ofW 3 AWP) := by
  intro a ha
  match a, ha with
  | 0, _ => rw [show rowOf (ofW 3 AWP) 0 = [1] from by kernel_rfl]; simp
  | 1, _ => rw [show rowOf (ofW 3 AWP) 1 = [2] from by kernel_rfl]; simp
  | 2, _ => rw [show rowOf (ofW 3 AWP) 2 = [] from by kernel_rfl]; simp

set_option maxHeartbeats 1600000 in
theorem awake_any (w : World) (hT : TabW w) :
    Calls Tryd.prog 13 #[] w fun e w' => e = .returned (.bool true) ∧ Below w.heap.size w w' := by
  have HP := Lib.hid (show Rds (w.alloc (.cells #[.int .i64 0, .int .i64 1, .int .i64 1, .int .i64 2] 51)) 2 (some ⟨w.heap.size, 0, none⟩) AWP.length (pairCells AWP) from
    ⟨rfl, fun _ => ⟨w.heap.size, 0, rfl, fun j hj => by rw [Nat.zero_add]; exact (Blk.new w 51 [.int .i64 0, .int .i64 1, .int .i64 1, .int .i64 2]).cell j⟩⟩)
  have HB0 := Lib.hid (below_alloc (Below.refl w.heap.size w) (.cells #[.int .i64 0, .int .i64 1, .int .i64 1, .int .i64 2] 51))
  go_enter Tryd.func13, Tryd.ntmps13
  go_wp2_with fail
  refine (relof_any 3 AWP (some ⟨w.heap.size, 0, none⟩) 2 _ (by decide) (by decide) HP.out (by decide)).mono ?_
  rintro e w1 ⟨hb, ⟨_, rfl, hr⟩ | ⟨hbad, _⟩⟩
  · have HB := Lib.hid (below_trans HB0.out hb)
    have HT := Lib.hid (hT.belowS HB.out)
    have HR := Lib.hid hr
    generalize (w.alloc (.cells #[.int .i64 0, .int .i64 1, .int .i64 1, .int .i64 2] 51)).heap.size = B at *
    clear hb hr HP HB0 hT
    go_wp2_with fail
    refine (relclosure_any _ _ 3 _ _ HR.out (by decide)).mono ?_
    rintro e w2 ⟨h', g', _, _, rfl, hr2, hb2⟩
    have HB2 := Lib.hid (below_trans HB.out hb2)
    have HT2 := Lib.hid (HT.out.belowS hb2)
    have HR2 := Lib.hid (HR.out.below hb2)
    have HH := Lib.hid (relhas_any _ _ 3 _ 0 2 w2 hr2 (by decide))
    rw [aw_has] at HH
    clear hr2 hb2 HR HT HB
    go_wp2_with fail
    refine (HH.out).mono ?_
    rintro e w3 ⟨rfl, rfl⟩
    go_wp2_with fail
    refine (relorder_any _ _ 3 _ _ HR2.out (by decide) aw_wf HT2.out).mono ?_
    rintro e w4 ⟨hb4, hm⟩
    rw [aw_ord] at hm
    obtain ⟨v, rfl, ho⟩ := hm
    obtain ⟨g, cap, rfl, _, _, _, hcap, hcs, _⟩ := own_open ho (by decide)
    have c2 : w4.cell? ⟨g, 2, none⟩ = some (.int .i64 2) := hcs 2 (by decide)
    have HB4 := Lib.hid (below_trans HB2.out hb4)
    clear ho hcs hb4
    go_wp2_with fail
    go_ret
    exact ⟨rfl, HB4.out⟩
  · rw [aw_ok] at hbad; cases hbad
end Go.Proofs.YtmiajpoclgdhbaaDoor
