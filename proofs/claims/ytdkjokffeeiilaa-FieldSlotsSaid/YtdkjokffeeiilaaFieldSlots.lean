/- Which entries of the tables an address takes is what its bits say; they and its place in the page make the address. -/
import Derived.Test.YtdkjokffeeiilaaRows
import Derived.Test.YtdkjokffeeiilaaBase
import Derived.ShutString
import Derived.ChangeOld
import Derived.Lib.SmallJoins
import Derived.Test.YtdkjokffeeiilaaFieldAwake
import Derived.Test.YtdkjokffeeiilaaFieldRefWalk
namespace Go.Proofs.Ytdkjokffeeiilaa.fieldSlots
open Go.ChangeShapes Go.WideShapes Go.ChangeAt Go.RowKit
open Go.ChangeMaps (open_string shut_string)
set_option linter.unusedVariables false

theorem own : ownKnob Try.prog.godebug = none := by kernel_rfl
theorem laidOut : laidOutB Try.prog = true := by kernel_rfl

theorem bd {x : Int} (w0 : (Lit.int .u64 x).wf = true) : 0 ≤ x ∧ x < 18446744073709551616 := by
  have := bounds_u64 w0; omega
theorem walk (a0 a1 : Int) (w : World) (w0 : (Lit.int .u64 a0).wf = true) (w1 : (Lit.int .i64 a1).wf = true) :
    Calls Try.prog 9 #[.int .u64 a0, .int .i64 a1] w fun e w' => e = .returned (.bool true) ∧ Below w.heap.size w w' := by
  have hx := bd w0
  have s1 := slot_one a0
  have s2 := slot_two a0
  have b1 := getN_field a0 29 21 9 (by decide)
  have b2 := getN_field a0 20 12 9 (by decide)
  clear w0 w1
  by_cases hw : a0 < 1073741824
  · have hm : ((getN a0 29 21 : Int) * 2097152 + (getN a0 20 12 : Int) * 4096 + a0 % 4096 == a0) = true := beq_iff_eq.2 (slots_make a0 hx.1 hw)
    rcases Classical.em (a1 = 1) with rfl | h1
    · skip
      go_enter Try.func9, Try.ntmps9
      go_wp2_with (first | (go_at_call 11; refine (awake_any _).mono ?_; rintro e w' ⟨rfl, m, rfl⟩) | (go_at_call 27; refine (slot_any _ _ _ hx).mono ?_; rintro e w' ⟨rfl, m, rfl⟩) | (go_at_call 28; refine (within_any _ _).mono ?_; rintro e w' ⟨rfl, m, rfl⟩) | (go_at_call 15; refine (rget_any _ _ _ _ hx).mono ?_; rintro e w' ⟨rfl, hb1⟩))
      go_ret
      exact ⟨rfl, (by repeat (first | exact Below.refl _ _ | assumption | refine below_drewN ?_ _ | refine below_trans ?_ (by assumption)))⟩
    rcases Classical.em (a1 = 2) with rfl | h2
    · skip
      go_enter Try.func9, Try.ntmps9
      go_wp2_with (first | (go_at_call 11; refine (awake_any _).mono ?_; rintro e w' ⟨rfl, m, rfl⟩) | (go_at_call 27; refine (slot_any _ _ _ hx).mono ?_; rintro e w' ⟨rfl, m, rfl⟩) | (go_at_call 28; refine (within_any _ _).mono ?_; rintro e w' ⟨rfl, m, rfl⟩) | (go_at_call 15; refine (rget_any _ _ _ _ hx).mono ?_; rintro e w' ⟨rfl, hb1⟩))
      go_ret
      exact ⟨rfl, (by repeat (first | exact Below.refl _ _ | assumption | refine below_drewN ?_ _ | refine below_trans ?_ (by assumption)))⟩
    · have s3 : slotZ a0 a1 = 0 := by simp [slotZ, h1, h2]
      have f1 : (a1 == 1) = false := beq_eq_false_iff_ne.2 h1
      have f2 : (a1 == 2) = false := beq_eq_false_iff_ne.2 h2
      go_enter Try.func9, Try.ntmps9
      go_wp2_with (first | (go_at_call 11; refine (awake_any _).mono ?_; rintro e w' ⟨rfl, m, rfl⟩) | (go_at_call 27; refine (slot_any _ _ _ hx).mono ?_; rintro e w' ⟨rfl, m, rfl⟩) | (go_at_call 28; refine (within_any _ _).mono ?_; rintro e w' ⟨rfl, m, rfl⟩) | (go_at_call 15; refine (rget_any _ _ _ _ hx).mono ?_; rintro e w' ⟨rfl, hb1⟩))
      go_ret
      exact ⟨rfl, (by repeat (first | exact Below.refl _ _ | assumption | refine below_drewN ?_ _ | refine below_trans ?_ (by assumption)))⟩
  · skip
    rcases Classical.em (a1 = 1) with rfl | h1
    · skip
      go_enter Try.func9, Try.ntmps9
      go_wp2_with (first | (go_at_call 11; refine (awake_any _).mono ?_; rintro e w' ⟨rfl, m, rfl⟩) | (go_at_call 27; refine (slot_any _ _ _ hx).mono ?_; rintro e w' ⟨rfl, m, rfl⟩) | (go_at_call 28; refine (within_any _ _).mono ?_; rintro e w' ⟨rfl, m, rfl⟩) | (go_at_call 15; refine (rget_any _ _ _ _ hx).mono ?_; rintro e w' ⟨rfl, hb1⟩))
      go_ret
      exact ⟨rfl, (by repeat (first | exact Below.refl _ _ | assumption | refine below_drewN ?_ _ | refine below_trans ?_ (by assumption)))⟩
    rcases Classical.em (a1 = 2) with rfl | h2
    · skip
      go_enter Try.func9, Try.ntmps9
      go_wp2_with (first | (go_at_call 11; refine (awake_any _).mono ?_; rintro e w' ⟨rfl, m, rfl⟩) | (go_at_call 27; refine (slot_any _ _ _ hx).mono ?_; rintro e w' ⟨rfl, m, rfl⟩) | (go_at_call 28; refine (within_any _ _).mono ?_; rintro e w' ⟨rfl, m, rfl⟩) | (go_at_call 15; refine (rget_any _ _ _ _ hx).mono ?_; rintro e w' ⟨rfl, hb1⟩))
      go_ret
      exact ⟨rfl, (by repeat (first | exact Below.refl _ _ | assumption | refine below_drewN ?_ _ | refine below_trans ?_ (by assumption)))⟩
    · have s3 : slotZ a0 a1 = 0 := by simp [slotZ, h1, h2]
      have f1 : (a1 == 1) = false := beq_eq_false_iff_ne.2 h1
      have f2 : (a1 == 2) = false := beq_eq_false_iff_ne.2 h2
      go_enter Try.func9, Try.ntmps9
      go_wp2_with (first | (go_at_call 11; refine (awake_any _).mono ?_; rintro e w' ⟨rfl, m, rfl⟩) | (go_at_call 27; refine (slot_any _ _ _ hx).mono ?_; rintro e w' ⟨rfl, m, rfl⟩) | (go_at_call 28; refine (within_any _ _).mono ?_; rintro e w' ⟨rfl, m, rfl⟩) | (go_at_call 15; refine (rget_any _ _ _ _ hx).mono ?_; rintro e w' ⟨rfl, hb1⟩))
      go_ret
      exact ⟨rfl, (by repeat (first | exact Below.refl _ _ | assumption | refine below_drewN ?_ _ | refine below_trans ?_ (by assumption)))⟩

set_option maxRecDepth 100000 in
theorem lifted (os : Os) (started : os.Started) (H : Type) (enc : TypeId × Value → H) :
    ReturnsInHanded {} Try.checked os 9 .any (Rows.fieldSlotsSpec.pre6 enc Try.prog Try.f9 Rows.fieldSlotsRow.domain false) (Rows.fieldSlotsSpec.post enc Try.prog Try.f9 false true false false) := by
  refine returnsInHanded_of_change (C := Try.checked) own started (by kernel_rfl) Try.func9
    (ChangeSpec.witness6 (enc := enc) (C := Try.checked) false ⟨#[], #[.int .u64 0, .int .i64 0], []⟩ 8 (by kernel_rfl) (by kernel_rfl) (by kernel_rfl) (by kernel_rfl)) ?_
  intro W base args ds gs before hval0 hW hcnd _
  have hval : ∀ (j : Nat) t v, Try.f9.params[j]? = some t → args[j]? = some v → Value.okWide Try.prog W .any base t v := hval0
  have hW' := hW
  obtain ⟨p, q, hA0, hV, rfl, hfz, hnd⟩ := hW
  have hA : DataW.TrodAll enc Try.prog W 0 (fun _ => true) true Try.f9.params.toList args.toList ds p := hA0
  rw [Try.params9] at hA hval
  obtain ⟨v0, vs0, d0, ds0, p0, q0, hargs, rfl, rfl, h0, r0⟩ := trodAll_cons hA
  obtain ⟨v1, vs1, d1, ds1, p1, q1, rfl, rfl, rfl, h1, r1⟩ := trodAll_cons r0
  obtain ⟨rfl, rfl, rfl⟩ := trodAll_nil r1
  obtain rfl : args = #[v0, v1] := by cases args; simp_all
  obtain ⟨rfl, rfl⟩ := trodVars_none hV
  obtain ⟨a0, rfl, rfl, rfl, w0⟩ := open_int Try.underlying23 (hval 0 23 v0 rfl rfl) h0
  obtain ⟨a1, rfl, rfl, rfl, w1⟩ := open_int Try.underlying3 (hval 1 3 v1 rfl rfl) h1
  clear hA0 hval0
  refine (walk a0 a1 W w0 w1).mono fun e W' ⟨he, bel⟩ => ?_
  subst he
  exact ⟨_, rfl, _, _, _, [], _, [], hW', trodAll_mk1 (shut_bool Try.underlying4 _), (trodAll_cons_mk (shut_int Try.underlying23 w0) (trodAll_cons_mk (shut_int Try.underlying3 w1) trodAll_mk0)), rfl, bel.frame _, fun h => by cases h⟩

theorem over : Rows.fieldSlotsRow.holds Try.pinned (OpenSpec.ofChange Rows.fieldSlotsSpec) :=
  OpenClaim.holds_of_wide 9 Try.f9 rfl rfl rfl rfl rfl rfl rfl ⟨rfl, rfl, rfl, rfl, rfl⟩ rfl rfl rfl rfl rfl (by kernel_rfl) Try.func9 (by kernel_rfl)
    (of_decide_eq_true (by kernel_rfl)) (by unfold Func.isWrapper; first | (rw [if_pos (by decide +kernel)]; kernel_rfl) | (rw [if_neg (by decide +kernel)]; exact ⟨rfl, rfl⟩))
    (fun os started H enc _ => lifted os started H enc)

theorem proved : Rows.FieldSlotsSaid := over
#print axioms proved
end Go.Proofs.Ytdkjokffeeiilaa.fieldSlots
