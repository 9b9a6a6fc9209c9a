/- The number that low bits write with its sign is told, and which numbers they can write. -/
import Derived.Test.YtdkjokffeeiilaaRows
import Derived.Test.YtdkjokffeeiilaaBase
import Derived.ShutString
import Derived.ChangeOld
import Derived.Lib.SmallJoins
import Derived.Test.YtdkjokffeeiilaaFieldAwake
import Derived.Test.YtdkjokffeeiilaaFieldRefWalk
namespace Go.Proofs.Ytdkjokffeeiilaa.fieldSigns
open Go.ChangeShapes Go.WideShapes Go.ChangeAt Go.RowKit
open Go.ChangeMaps (open_string shut_string)
set_option linter.unusedVariables false

theorem own : ownKnob Try.prog.godebug = none := by kernel_rfl
theorem laidOut : laidOutB Try.prog = true := by kernel_rfl

theorem bd {x : Int} (w0 : (Lit.int .u64 x).wf = true) : 0 ≤ x ∧ x < 18446744073709551616 := by
  have := bounds_u64 w0; omega
theorem walk (a0 a1 a2 : Int) (w : World) (w0 : (Lit.int .u64 a0).wf = true) (w1 : (Lit.int .i64 a1).wf = true) (w2 : (Lit.int .i64 a2).wf = true) :
    Calls Try.prog 5 #[.int .u64 a0, .int .i64 a1, .int .i64 a2] w fun e w' => e = .returned (.bool true) ∧ Below w.heap.size w w' := by
  have hx := bd w0
  clear w0 w1 w2
  by_cases hn : 1 ≤ a1 ∧ a1 ≤ 63
  · have f1 : fitsB (signedZ a0 a1) a1 = true := fits_signed a0 a1 hn
    have hf := fits_back a1 a2 hn
    have hv := wrap_u64_range a2
    obtain ⟨h1, h2⟩ := hn
    go_enter Try.func5, Try.ntmps5
    go_wp2_with (first | (go_at_call 11; refine (awake_any _).mono ?_; rintro e w' ⟨rfl, m, rfl⟩) | (go_at_call 17; refine (signed_any _ _ _ hx).mono ?_; rintro e w' ⟨rfl, m, rfl⟩) | (go_at_call 19; refine (fits_any _ _ _).mono ?_; rintro e w' ⟨rfl, m, rfl⟩) | (go_at_call 18; refine (rsigned_any _ _ _ (by first | exact hx | exact hv)).mono ?_; rintro e w' ⟨rfl, hb⟩))
    go_ret
    exact ⟨rfl, (by repeat (first | exact Below.refl _ _ | assumption | refine below_drewN ?_ _ | refine below_trans ?_ (by assumption)))⟩
  · have f1 : fitsB a2 a1 = false := by unfold fitsB; rw [decide_eq_false]; omega
    by_cases h1 : a1 < 1
    · clear hn
      go_enter Try.func5, Try.ntmps5
      go_wp2_with (first | (go_at_call 11; refine (awake_any _).mono ?_; rintro e w' ⟨rfl, m, rfl⟩) | (go_at_call 17; refine (signed_any _ _ _ hx).mono ?_; rintro e w' ⟨rfl, m, rfl⟩) | (go_at_call 19; refine (fits_any _ _ _).mono ?_; rintro e w' ⟨rfl, m, rfl⟩) | (go_at_call 18; refine (rsigned_any _ _ _ (by first | exact hx | exact hv)).mono ?_; rintro e w' ⟨rfl, hb⟩))
      go_ret
      exact ⟨rfl, (by repeat (first | exact Below.refl _ _ | assumption | refine below_drewN ?_ _ | refine below_trans ?_ (by assumption)))⟩
    · have h2 : 63 < a1 := by omega
      clear hn
      go_enter Try.func5, Try.ntmps5
      go_wp2_with (first | (go_at_call 11; refine (awake_any _).mono ?_; rintro e w' ⟨rfl, m, rfl⟩) | (go_at_call 17; refine (signed_any _ _ _ hx).mono ?_; rintro e w' ⟨rfl, m, rfl⟩) | (go_at_call 19; refine (fits_any _ _ _).mono ?_; rintro e w' ⟨rfl, m, rfl⟩) | (go_at_call 18; refine (rsigned_any _ _ _ (by first | exact hx | exact hv)).mono ?_; rintro e w' ⟨rfl, hb⟩))
      go_ret
      exact ⟨rfl, (by repeat (first | exact Below.refl _ _ | assumption | refine below_drewN ?_ _ | refine below_trans ?_ (by assumption)))⟩

set_option maxRecDepth 100000 in
theorem lifted (os : Os) (started : os.Started) (H : Type) (enc : TypeId × Value → H) :
    ReturnsInHanded {} Try.checked os 5 .any (Rows.fieldSignsSpec.pre6 enc Try.prog Try.f5 Rows.fieldSignsRow.domain false) (Rows.fieldSignsSpec.post enc Try.prog Try.f5 false true false false) := by
  refine returnsInHanded_of_change (C := Try.checked) own started (by kernel_rfl) Try.func5
    (ChangeSpec.witness6 (enc := enc) (C := Try.checked) false ⟨#[], #[.int .u64 0, .int .i64 0, .int .i64 0], []⟩ 8 (by kernel_rfl) (by kernel_rfl) (by kernel_rfl) (by kernel_rfl)) ?_
  intro W base args ds gs before hval0 hW hcnd _
  have hval : ∀ (j : Nat) t v, Try.f5.params[j]? = some t → args[j]? = some v → Value.okWide Try.prog W .any base t v := hval0
  have hW' := hW
  obtain ⟨p, q, hA0, hV, rfl, hfz, hnd⟩ := hW
  have hA : DataW.TrodAll enc Try.prog W 0 (fun _ => true) true Try.f5.params.toList args.toList ds p := hA0
  rw [Try.params5] at hA hval
  obtain ⟨v0, vs0, d0, ds0, p0, q0, hargs, rfl, rfl, h0, r0⟩ := trodAll_cons hA
  obtain ⟨v1, vs1, d1, ds1, p1, q1, rfl, rfl, rfl, h1, r1⟩ := trodAll_cons r0
  obtain ⟨v2, vs2, d2, ds2, p2, q2, rfl, rfl, rfl, h2, r2⟩ := trodAll_cons r1
  obtain ⟨rfl, rfl, rfl⟩ := trodAll_nil r2
  obtain rfl : args = #[v0, v1, v2] := by cases args; simp_all
  obtain ⟨rfl, rfl⟩ := trodVars_none hV
  obtain ⟨a0, rfl, rfl, rfl, w0⟩ := open_int Try.underlying23 (hval 0 23 v0 rfl rfl) h0
  obtain ⟨a1, rfl, rfl, rfl, w1⟩ := open_int Try.underlying3 (hval 1 3 v1 rfl rfl) h1
  obtain ⟨a2, rfl, rfl, rfl, w2⟩ := open_int Try.underlying3 (hval 2 3 v2 rfl rfl) h2
  clear hA0 hval0
  refine (walk a0 a1 a2 W w0 w1 w2).mono fun e W' ⟨he, bel⟩ => ?_
  subst he
  exact ⟨_, rfl, _, _, _, [], _, [], hW', trodAll_mk1 (shut_bool Try.underlying4 _), (trodAll_cons_mk (shut_int Try.underlying23 w0) (trodAll_cons_mk (shut_int Try.underlying3 w1) (trodAll_cons_mk (shut_int Try.underlying3 w2) trodAll_mk0))), rfl, bel.frame _, fun h => by cases h⟩

theorem over : Rows.fieldSignsRow.holds Try.pinned (OpenSpec.ofChange Rows.fieldSignsSpec) :=
  OpenClaim.holds_of_wide 5 Try.f5 rfl rfl rfl rfl rfl rfl rfl ⟨rfl, rfl, rfl, rfl, rfl⟩ rfl rfl rfl rfl rfl (by kernel_rfl) Try.func5 (by kernel_rfl)
    (of_decide_eq_true (by kernel_rfl)) (by unfold Func.isWrapper; first | (rw [if_pos (by decide +kernel)]; kernel_rfl) | (rw [if_neg (by decide +kernel)]; exact ⟨rfl, rfl⟩))
    (fun os started H enc _ => lifted os started H enc)

theorem proved : Rows.FieldSignsSaid := over
#print axioms proved
end Go.Proofs.Ytdkjokffeeiilaa.fieldSigns
