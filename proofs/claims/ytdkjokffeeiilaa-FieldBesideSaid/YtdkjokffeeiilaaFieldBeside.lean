/- Two parts of a word that do not overlap are put in either order; and each is read again. -/
import Derived.Test.YtdkjokffeeiilaaRows
import Derived.Test.YtdkjokffeeiilaaBase
import Derived.ShutString
import Derived.ChangeOld
import Derived.Lib.SmallJoins
import Derived.Test.YtdkjokffeeiilaaFieldAwake
import Derived.Test.YtdkjokffeeiilaaFieldRefWalk
namespace Go.Proofs.Ytdkjokffeeiilaa.fieldBeside
open Go.ChangeShapes Go.WideShapes Go.ChangeAt Go.RowKit
open Go.ChangeMaps (open_string shut_string)
set_option linter.unusedVariables false

theorem own : ownKnob Try.prog.godebug = none := by kernel_rfl
theorem laidOut : laidOutB Try.prog = true := by kernel_rfl

theorem bd {x : Int} (w0 : (Lit.int .u64 x).wf = true) : 0 ≤ x ∧ x < 18446744073709551616 := by
  have := bounds_u64 w0; omega
theorem walk (a0 a b c d v : Int) (w : World) (w0 : (Lit.int .u64 a0).wf = true) (w1 : (Lit.int .u64 v).wf = true) :
    Calls Try.prog 7 #[.int .u64 a0, .agg #[.int .i64 a, .int .i64 b, .int .i64 c, .int .i64 d], .int .u64 v] w fun e w' => e = .returned (.bool true) ∧ Below w.heap.size w w' := by
  have hx := bd w0
  have hv := bd w1
  clear w0 w1
  cases hab : mayB a b
  · skip
    go_enter Try.func7, Try.ntmps7
    go_wp2_with (first | (go_at_call 11; refine (awake_any _).mono ?_; rintro e w' ⟨rfl, m, rfl⟩) | (go_at_call 14; refine (get_any _ _ _ _ (by omega)).mono ?_; rintro e w' ⟨rfl, m, rfl⟩) | (go_at_call 20; refine (put_any _ _ _ _ _ (by omega) (by omega)).mono ?_; rintro e w' ⟨rfl, m, rfl⟩) | (go_at_call 22; refine (may_any _ _ _).mono ?_; rintro e w' ⟨rfl, rfl⟩) | (go_at_call 15; refine (rget_any _ _ _ _ hv).mono ?_; rintro e w' ⟨rfl, hb1⟩))
    go_quiet (fail)
    go_wp2_with (first | (go_at_call 11; refine (awake_any _).mono ?_; rintro e w' ⟨rfl, m, rfl⟩) | (go_at_call 14; refine (get_any _ _ _ _ (by omega)).mono ?_; rintro e w' ⟨rfl, m, rfl⟩) | (go_at_call 20; refine (put_any _ _ _ _ _ (by omega) (by omega)).mono ?_; rintro e w' ⟨rfl, m, rfl⟩) | (go_at_call 22; refine (may_any _ _ _).mono ?_; rintro e w' ⟨rfl, rfl⟩) | (go_at_call 15; refine (rget_any _ _ _ _ hv).mono ?_; rintro e w' ⟨rfl, hb1⟩))
    go_ret
    exact ⟨rfl, (by repeat (first | exact Below.refl _ _ | assumption | refine below_drewN ?_ _ | refine below_alloc ?_ _ | refine below_trans ?_ (by assumption)))⟩
  cases hcd : mayB c d
  · skip
    go_enter Try.func7, Try.ntmps7
    go_wp2_with (first | (go_at_call 11; refine (awake_any _).mono ?_; rintro e w' ⟨rfl, m, rfl⟩) | (go_at_call 14; refine (get_any _ _ _ _ (by omega)).mono ?_; rintro e w' ⟨rfl, m, rfl⟩) | (go_at_call 20; refine (put_any _ _ _ _ _ (by omega) (by omega)).mono ?_; rintro e w' ⟨rfl, m, rfl⟩) | (go_at_call 22; refine (may_any _ _ _).mono ?_; rintro e w' ⟨rfl, rfl⟩) | (go_at_call 15; refine (rget_any _ _ _ _ hv).mono ?_; rintro e w' ⟨rfl, hb1⟩))
    go_quiet (fail)
    go_wp2_with (first | (go_at_call 11; refine (awake_any _).mono ?_; rintro e w' ⟨rfl, m, rfl⟩) | (go_at_call 14; refine (get_any _ _ _ _ (by omega)).mono ?_; rintro e w' ⟨rfl, m, rfl⟩) | (go_at_call 20; refine (put_any _ _ _ _ _ (by omega) (by omega)).mono ?_; rintro e w' ⟨rfl, m, rfl⟩) | (go_at_call 22; refine (may_any _ _ _).mono ?_; rintro e w' ⟨rfl, rfl⟩) | (go_at_call 15; refine (rget_any _ _ _ _ hv).mono ?_; rintro e w' ⟨rfl, hb1⟩))
    go_ret
    exact ⟨rfl, (by repeat (first | exact Below.refl _ _ | assumption | refine below_drewN ?_ _ | refine below_alloc ?_ _ | refine below_trans ?_ (by assumption)))⟩
  have hab' := hab
  have hcd' := hcd
  simp only [mayB, decide_eq_true_eq] at hab' hcd'
  obtain ⟨p0, p1, p2⟩ := hab'
  obtain ⟨q0, q1, q2⟩ := hcd'
  by_cases h1 : d ≤ a
  · by_cases h2 : b ≤ c
    · skip
      go_enter Try.func7, Try.ntmps7
      go_wp2_with (first | (go_at_call 11; refine (awake_any _).mono ?_; rintro e w' ⟨rfl, m, rfl⟩) | (go_at_call 14; refine (get_any _ _ _ _ (by omega)).mono ?_; rintro e w' ⟨rfl, m, rfl⟩) | (go_at_call 20; refine (put_any _ _ _ _ _ (by omega) (by omega)).mono ?_; rintro e w' ⟨rfl, m, rfl⟩) | (go_at_call 22; refine (may_any _ _ _).mono ?_; rintro e w' ⟨rfl, rfl⟩) | (go_at_call 15; refine (rget_any _ _ _ _ hv).mono ?_; rintro e w' ⟨rfl, hb1⟩))
      go_quiet (fail)
      go_wp2_with (first | (go_at_call 11; refine (awake_any _).mono ?_; rintro e w' ⟨rfl, m, rfl⟩) | (go_at_call 14; refine (get_any _ _ _ _ (by omega)).mono ?_; rintro e w' ⟨rfl, m, rfl⟩) | (go_at_call 20; refine (put_any _ _ _ _ _ (by omega) (by omega)).mono ?_; rintro e w' ⟨rfl, m, rfl⟩) | (go_at_call 22; refine (may_any _ _ _).mono ?_; rintro e w' ⟨rfl, rfl⟩) | (go_at_call 15; refine (rget_any _ _ _ _ hv).mono ?_; rintro e w' ⟨rfl, hb1⟩))
      go_ret
      exact ⟨rfl, (by repeat (first | exact Below.refl _ _ | assumption | refine below_drewN ?_ _ | refine below_alloc ?_ _ | refine below_trans ?_ (by assumption)))⟩
    · have hap : ¬ (d ≤ a ∧ b ≤ c) := fun h => h2 h.2
      have HAP := Lib.hid hap
      clear hap
      obtain ⟨u, hu, hul⟩ := compl_u64 v hv
      have hs : IntKind.u64.signed = false := rfl
      have pb := put_beside a0 a b v c d u hx hab hcd HAP.out
      have l1 := putN_lt a0 a b v hx
      have l2 := putN_lt a0 c d u hx
      have l3 := putN_lt (putN a0 c d u) a b v (by omega)
      have gb := get_put (putN a0 c d u) a b v (by omega) hab
      go_enter Try.func7, Try.ntmps7
      go_wp2_with (first | (go_at_call 11; refine (awake_any _).mono ?_; rintro e w' ⟨rfl, m, rfl⟩) | (go_at_call 14; refine (get_any _ _ _ _ (by omega)).mono ?_; rintro e w' ⟨rfl, m, rfl⟩) | (go_at_call 20; refine (put_any _ _ _ _ _ (by omega) (by omega)).mono ?_; rintro e w' ⟨rfl, m, rfl⟩) | (go_at_call 22; refine (may_any _ _ _).mono ?_; rintro e w' ⟨rfl, rfl⟩) | (go_at_call 15; refine (rget_any _ _ _ _ hv).mono ?_; rintro e w' ⟨rfl, hb1⟩))
      go_quiet (fail)
      go_wp2_with (first | (go_at_call 11; refine (awake_any _).mono ?_; rintro e w' ⟨rfl, m, rfl⟩) | (go_at_call 14; refine (get_any _ _ _ _ (by omega)).mono ?_; rintro e w' ⟨rfl, m, rfl⟩) | (go_at_call 20; refine (put_any _ _ _ _ _ (by omega) (by omega)).mono ?_; rintro e w' ⟨rfl, m, rfl⟩) | (go_at_call 22; refine (may_any _ _ _).mono ?_; rintro e w' ⟨rfl, rfl⟩) | (go_at_call 15; refine (rget_any _ _ _ _ hv).mono ?_; rintro e w' ⟨rfl, hb1⟩))
      go_ret
      exact ⟨rfl, (by repeat (first | exact Below.refl _ _ | assumption | refine below_drewN ?_ _ | refine below_alloc ?_ _ | refine below_trans ?_ (by assumption)))⟩
  · have hap : ¬ (d ≤ a ∧ b ≤ c) := fun h => h1 h.1
    have HAP := Lib.hid hap
    clear hap
    obtain ⟨u, hu, hul⟩ := compl_u64 v hv
    have hs : IntKind.u64.signed = false := rfl
    have pb := put_beside a0 a b v c d u hx hab hcd HAP.out
    have l1 := putN_lt a0 a b v hx
    have l2 := putN_lt a0 c d u hx
    have l3 := putN_lt (putN a0 c d u) a b v (by omega)
    have gb := get_put (putN a0 c d u) a b v (by omega) hab
    go_enter Try.func7, Try.ntmps7
    go_wp2_with (first | (go_at_call 11; refine (awake_any _).mono ?_; rintro e w' ⟨rfl, m, rfl⟩) | (go_at_call 14; refine (get_any _ _ _ _ (by omega)).mono ?_; rintro e w' ⟨rfl, m, rfl⟩) | (go_at_call 20; refine (put_any _ _ _ _ _ (by omega) (by omega)).mono ?_; rintro e w' ⟨rfl, m, rfl⟩) | (go_at_call 22; refine (may_any _ _ _).mono ?_; rintro e w' ⟨rfl, rfl⟩) | (go_at_call 15; refine (rget_any _ _ _ _ hv).mono ?_; rintro e w' ⟨rfl, hb1⟩))
    go_quiet (fail)
    go_wp2_with (first | (go_at_call 11; refine (awake_any _).mono ?_; rintro e w' ⟨rfl, m, rfl⟩) | (go_at_call 14; refine (get_any _ _ _ _ (by omega)).mono ?_; rintro e w' ⟨rfl, m, rfl⟩) | (go_at_call 20; refine (put_any _ _ _ _ _ (by omega) (by omega)).mono ?_; rintro e w' ⟨rfl, m, rfl⟩) | (go_at_call 22; refine (may_any _ _ _).mono ?_; rintro e w' ⟨rfl, rfl⟩) | (go_at_call 15; refine (rget_any _ _ _ _ hv).mono ?_; rintro e w' ⟨rfl, hb1⟩))
    go_ret
    exact ⟨rfl, (by repeat (first | exact Below.refl _ _ | assumption | refine below_drewN ?_ _ | refine below_alloc ?_ _ | refine below_trans ?_ (by assumption)))⟩

set_option maxRecDepth 100000 in
theorem lifted (os : Os) (started : os.Started) (H : Type) (enc : TypeId × Value → H) :
    ReturnsInHanded {} Try.checked os 7 .any (Rows.fieldBesideSpec.pre6 enc Try.prog Try.f7 Rows.fieldBesideRow.domain false) (Rows.fieldBesideSpec.post enc Try.prog Try.f7 false true false false) := by
  refine returnsInHanded_of_change (C := Try.checked) own started (by kernel_rfl) Try.func7
    (ChangeSpec.witness6 (enc := enc) (C := Try.checked) false ⟨#[], #[.int .u64 0, .agg #[.int .i64 0, .int .i64 0, .int .i64 0, .int .i64 0], .int .u64 0], []⟩ 8 (by kernel_rfl) (by kernel_rfl) (by kernel_rfl) (by kernel_rfl)) ?_
  intro W base args ds gs before hval0 hW hcnd _
  have hval : ∀ (j : Nat) t v, Try.f7.params[j]? = some t → args[j]? = some v → Value.okWide Try.prog W .any base t v := hval0
  have hW' := hW
  obtain ⟨p, q, hA0, hV, rfl, hfz, hnd⟩ := hW
  have hA : DataW.TrodAll enc Try.prog W 0 (fun _ => true) true Try.f7.params.toList args.toList ds p := hA0
  rw [Try.params7] at hA hval
  obtain ⟨v0, vs0, d0, ds0, p0, q0, hargs, rfl, rfl, h0, r0⟩ := trodAll_cons hA
  obtain ⟨v1, vs1, d1, ds1, p1, q1, rfl, rfl, rfl, h1, r1⟩ := trodAll_cons r0
  obtain ⟨v2, vs2, d2, ds2, p2, q2, rfl, rfl, rfl, h2, r2⟩ := trodAll_cons r1
  obtain ⟨rfl, rfl, rfl⟩ := trodAll_nil r2
  obtain rfl : args = #[v0, v1, v2] := by cases args; simp_all
  obtain ⟨rfl, rfl⟩ := trodVars_none hV
  obtain ⟨a0, rfl, rfl, rfl, w0⟩ := open_int Try.underlying23 (hval 0 23 v0 rfl rfl) h0
  have k1 := h1
  have lt1 : ∀ x ∈ p1, x.block < W.heap.size := by obtain ⟨m, hm⟩ := k1; exact DataW.trod_lt m _ _ _ hm
  obtain ⟨z1, l1, e1, wz1⟩ := open_int_array Try.underlying38 Try.underlying3 (by kernel_rfl) (by kernel_rfl) (hval 1 38 v1 rfl rfl) h1
  obtain ⟨x1, y1, s1, t1, rfl⟩ := list4 l1
  subst e1
  obtain ⟨a2, rfl, rfl, rfl, w2⟩ := open_int Try.underlying23 (hval 2 23 v2 rfl rfl) h2
  clear hA0 hval0
  refine (walk a0 x1 y1 s1 t1 a2 W w0 w2).mono fun e W' ⟨he, bel⟩ => ?_
  subst he
  exact ⟨_, rfl, _, _, _, [], _, [], hW', trodAll_mk1 (shut_bool Try.underlying4 _), (trodAll_cons_mk (shut_int Try.underlying23 w0) (trodAll_cons_mk (Below.trod laidOut (by kernel_rfl) (of_decide_eq_true (by kernel_rfl)) k1 bel lt1) (trodAll_cons_mk (shut_int Try.underlying23 w2) trodAll_mk0))), rfl, bel.frame _, fun h => by cases h⟩

theorem over : Rows.fieldBesideRow.holds Try.pinned (OpenSpec.ofChange Rows.fieldBesideSpec) :=
  OpenClaim.holds_of_wide 7 Try.f7 rfl rfl rfl rfl rfl rfl rfl ⟨rfl, rfl, rfl, rfl, rfl⟩ rfl rfl rfl rfl rfl (by kernel_rfl) Try.func7 (by kernel_rfl)
    (of_decide_eq_true (by kernel_rfl)) (by unfold Func.isWrapper; first | (rw [if_pos (by decide +kernel)]; kernel_rfl) | (rw [if_neg (by decide +kernel)]; exact ⟨rfl, rfl⟩))
    (fun os started H enc _ => lifted os started H enc)

theorem proved : Rows.FieldBesideSaid := over
#print axioms proved
end Go.Proofs.Ytdkjokffeeiilaa.fieldBeside
