/- Any part of any word is replaced, and nothing beside it; and read again it is what was put. -/
import Derived.Test.YtdkjokffeeiilaaRows
import Derived.Test.YtdkjokffeeiilaaBase
import Derived.ShutString
import Derived.ChangeOld
import Derived.Lib.SmallJoins
import Derived.Test.YtdkjokffeeiilaaFieldAwake
import Derived.Test.YtdkjokffeeiilaaFieldRefWalk
namespace Go.Proofs.Ytdkjokffeeiilaa.fieldPuts
open Go.ChangeShapes Go.WideShapes Go.ChangeAt Go.RowKit
open Go.ChangeMaps (open_string shut_string)
set_option linter.unusedVariables false

theorem own : ownKnob Try.prog.godebug = none := by kernel_rfl
theorem laidOut : laidOutB Try.prog = true := by kernel_rfl

theorem bd {x : Int} (w0 : (Lit.int .u64 x).wf = true) : 0 ≤ x ∧ x < 18446744073709551616 := by
  have := bounds_u64 w0; omega
theorem walk (a0 a1 hi lo : Int) (w : World) (w0 : (Lit.int .u64 a0).wf = true) (w1 : (Lit.int .u64 a1).wf = true) (w2 : (Lit.int .i64 hi).wf = true) (w3 : (Lit.int .i64 lo).wf = true) :
    Calls Try.prog 6 #[.int .u64 a0, .int .u64 a1, .agg #[.int .i64 hi, .int .i64 lo]] w fun e w' => e = .returned (.bool true) ∧ Below w.heap.size w w' := by
  have hx := bd w0
  have hv := bd w1
  have hp := putN_lt a0 hi lo a1 hx
  clear w0 w1 w2 w3
  cases hm : mayB hi lo
  · skip
    go_enter Try.func6, Try.ntmps6
    go_wp2_with (first | (go_at_call 11; refine (awake_any _).mono ?_; rintro e w' ⟨rfl, m, rfl⟩) | (go_at_call 14; refine (get_any _ _ _ _ (by omega)).mono ?_; rintro e w' ⟨rfl, m, rfl⟩) | (go_at_call 20; refine (put_any _ _ _ _ _ hx hv).mono ?_; rintro e w' ⟨rfl, m, rfl⟩) | (go_at_call 22; refine (may_any _ _ _).mono ?_; rintro e w' ⟨rfl, rfl⟩) | (go_at_call 15; refine (rget_any _ _ _ _ hv).mono ?_; rintro e w' ⟨rfl, hb1⟩) | (go_at_call 21; refine (rput_any _ _ _ _ _ hx hv).mono ?_; rintro e w' ⟨rfl, hb2⟩))
    go_quiet (fail)
    go_wp2_with (first | (go_at_call 11; refine (awake_any _).mono ?_; rintro e w' ⟨rfl, m, rfl⟩) | (go_at_call 14; refine (get_any _ _ _ _ (by omega)).mono ?_; rintro e w' ⟨rfl, m, rfl⟩) | (go_at_call 20; refine (put_any _ _ _ _ _ hx hv).mono ?_; rintro e w' ⟨rfl, m, rfl⟩) | (go_at_call 22; refine (may_any _ _ _).mono ?_; rintro e w' ⟨rfl, rfl⟩) | (go_at_call 15; refine (rget_any _ _ _ _ hv).mono ?_; rintro e w' ⟨rfl, hb1⟩) | (go_at_call 21; refine (rput_any _ _ _ _ _ hx hv).mono ?_; rintro e w' ⟨rfl, hb2⟩))
    go_ret
    exact ⟨rfl, (by repeat (first | exact Below.refl _ _ | assumption | refine below_drewN ?_ _ | refine below_alloc ?_ _ | refine below_trans ?_ (by assumption)))⟩
  · have hg := get_put a0 hi lo a1 hx hm
    have hm' := hm
    simp only [mayB, decide_eq_true_eq] at hm'
    obtain ⟨h0, h1, h2⟩ := hm'
    go_enter Try.func6, Try.ntmps6
    go_wp2_with (first | (go_at_call 11; refine (awake_any _).mono ?_; rintro e w' ⟨rfl, m, rfl⟩) | (go_at_call 14; refine (get_any _ _ _ _ (by omega)).mono ?_; rintro e w' ⟨rfl, m, rfl⟩) | (go_at_call 20; refine (put_any _ _ _ _ _ hx hv).mono ?_; rintro e w' ⟨rfl, m, rfl⟩) | (go_at_call 22; refine (may_any _ _ _).mono ?_; rintro e w' ⟨rfl, rfl⟩) | (go_at_call 15; refine (rget_any _ _ _ _ hv).mono ?_; rintro e w' ⟨rfl, hb1⟩) | (go_at_call 21; refine (rput_any _ _ _ _ _ hx hv).mono ?_; rintro e w' ⟨rfl, hb2⟩))
    go_quiet (fail)
    go_wp2_with (first | (go_at_call 11; refine (awake_any _).mono ?_; rintro e w' ⟨rfl, m, rfl⟩) | (go_at_call 14; refine (get_any _ _ _ _ (by omega)).mono ?_; rintro e w' ⟨rfl, m, rfl⟩) | (go_at_call 20; refine (put_any _ _ _ _ _ hx hv).mono ?_; rintro e w' ⟨rfl, m, rfl⟩) | (go_at_call 22; refine (may_any _ _ _).mono ?_; rintro e w' ⟨rfl, rfl⟩) | (go_at_call 15; refine (rget_any _ _ _ _ hv).mono ?_; rintro e w' ⟨rfl, hb1⟩) | (go_at_call 21; refine (rput_any _ _ _ _ _ hx hv).mono ?_; rintro e w' ⟨rfl, hb2⟩))
    go_ret
    exact ⟨rfl, (by repeat (first | exact Below.refl _ _ | assumption | refine below_drewN ?_ _ | refine below_alloc ?_ _ | refine below_trans ?_ (by assumption)))⟩

set_option maxRecDepth 100000 in
theorem lifted (os : Os) (started : os.Started) (H : Type) (enc : TypeId × Value → H) :
    ReturnsInHanded {} Try.checked os 6 .any (Rows.fieldPutsSpec.pre6 enc Try.prog Try.f6 Rows.fieldPutsRow.domain false) (Rows.fieldPutsSpec.post enc Try.prog Try.f6 false true false false) := by
  refine returnsInHanded_of_change (C := Try.checked) own started (by kernel_rfl) Try.func6
    (ChangeSpec.witness6 (enc := enc) (C := Try.checked) false ⟨#[], #[.int .u64 0, .int .u64 0, .agg #[.int .i64 0, .int .i64 0]], []⟩ 8 (by kernel_rfl) (by kernel_rfl) (by kernel_rfl) (by kernel_rfl)) ?_
  intro W base args ds gs before hval0 hW hcnd _
  have hval : ∀ (j : Nat) t v, Try.f6.params[j]? = some t → args[j]? = some v → Value.okWide Try.prog W .any base t v := hval0
  have hW' := hW
  obtain ⟨p, q, hA0, hV, rfl, hfz, hnd⟩ := hW
  have hA : DataW.TrodAll enc Try.prog W 0 (fun _ => true) true Try.f6.params.toList args.toList ds p := hA0
  rw [Try.params6] at hA hval
  obtain ⟨v0, vs0, d0, ds0, p0, q0, hargs, rfl, rfl, h0, r0⟩ := trodAll_cons hA
  obtain ⟨v1, vs1, d1, ds1, p1, q1, rfl, rfl, rfl, h1, r1⟩ := trodAll_cons r0
  obtain ⟨v2, vs2, d2, ds2, p2, q2, rfl, rfl, rfl, h2, r2⟩ := trodAll_cons r1
  obtain ⟨rfl, rfl, rfl⟩ := trodAll_nil r2
  obtain rfl : args = #[v0, v1, v2] := by cases args; simp_all
  obtain ⟨rfl, rfl⟩ := trodVars_none hV
  obtain ⟨a0, rfl, rfl, rfl, w0⟩ := open_int Try.underlying23 (hval 0 23 v0 rfl rfl) h0
  obtain ⟨a1, rfl, rfl, rfl, w1⟩ := open_int Try.underlying23 (hval 1 23 v1 rfl rfl) h1
  have k2 := h2
  have lt2 : ∀ x ∈ p2, x.block < W.heap.size := by obtain ⟨m, hm⟩ := k2; exact DataW.trod_lt m _ _ _ hm
  obtain ⟨z2, l2, e2, wz2⟩ := open_int_array Try.underlying35 Try.underlying3 (by kernel_rfl) (by kernel_rfl) (hval 2 35 v2 rfl rfl) h2
  obtain ⟨x2, y2, rfl⟩ := list2 l2
  subst e2
  clear hA0 hval0
  refine (walk a0 a1 x2 y2 W w0 w1 (wz2 _ (by simp)) (wz2 _ (by simp))).mono fun e W' ⟨he, bel⟩ => ?_
  subst he
  exact ⟨_, rfl, _, _, _, [], _, [], hW', trodAll_mk1 (shut_bool Try.underlying4 _), (trodAll_cons_mk (shut_int Try.underlying23 w0) (trodAll_cons_mk (shut_int Try.underlying23 w1) (trodAll_cons_mk (Below.trod laidOut (by kernel_rfl) (of_decide_eq_true (by kernel_rfl)) k2 bel lt2) trodAll_mk0))), rfl, bel.frame _, fun h => by cases h⟩

theorem over : Rows.fieldPutsRow.holds Try.pinned (OpenSpec.ofChange Rows.fieldPutsSpec) :=
  OpenClaim.holds_of_wide 6 Try.f6 rfl rfl rfl rfl rfl rfl rfl ⟨rfl, rfl, rfl, rfl, rfl⟩ rfl rfl rfl rfl rfl (by kernel_rfl) Try.func6 (by kernel_rfl)
    (of_decide_eq_true (by kernel_rfl)) (by unfold Func.isWrapper; first | (rw [if_pos (by decide +kernel)]; kernel_rfl) | (rw [if_neg (by decide +kernel)]; exact ⟨rfl, rfl⟩))
    (fun os started H enc _ => lifted os started H enc)

theorem proved : Rows.FieldPutsSaid := over
#print axioms proved
end Go.Proofs.Ytdkjokffeeiilaa.fieldPuts
