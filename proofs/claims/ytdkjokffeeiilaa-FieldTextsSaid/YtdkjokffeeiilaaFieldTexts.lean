/- Any word and any number is written by its digits, and read again. -/
import Derived.Test.YtdkjokffeeiilaaRows
import Derived.Test.YtdkjokffeeiilaaBase
import Derived.ShutString
import Derived.ChangeOld
import Derived.Lib.SmallJoins
import Derived.Test.YtdkjokffeeiilaaFieldAwake
import Derived.Test.YtdkjokffeeiilaaParseWalk
import Derived.Test.YtdkjokffeeiilaaHexWalk
import Derived.Test.YtdkjokffeeiilaaRTextWalk
namespace Go.Proofs.Ytdkjokffeeiilaa.fieldTexts
open Go.ChangeShapes Go.WideShapes Go.ChangeAt Go.RowKit
open Go.ChangeMaps (open_string shut_string)
set_option linter.unusedVariables false

theorem own : ownKnob Try.prog.godebug = none := by kernel_rfl
theorem laidOut : laidOutB Try.prog = true := by kernel_rfl

theorem bd {x : Int} (w0 : (Lit.int .u64 x).wf = true) : 0 ≤ x ∧ x < 18446744073709551616 := by
  have := bounds_u64 w0; omega
theorem le_max {n : Nat} (h : n ≤ 100) : n ≤ maxLen := by unfold maxLen; omega
theorem walk (a0 a1 : Int) (w : World) (w0 : (Lit.int .u64 a0).wf = true) (w1 : (Lit.int .i64 a1).wf = true) :
    Calls Try.prog 10 #[.int .u64 a0, .int .i64 a1] w fun e w' => e = .returned (.bool true) ∧ Below w.heap.size w w' := by
  have hx := bd w0
  have hn := bounds_i64 w1
  obtain ⟨n, rfl⟩ := Int.eq_ofNat_of_zero_le hx.1
  have b1 := txt_len64 16 n (by decide) (by omega)
  have b2 := txt_len64 10 n (by decide) (by omega)
  have hz1 : (ba (48 :: 120 :: txt 16 n)).size ≤ maxLen := le_max (by rw [ba_size]; simp; omega)
  have hz2 : (ba (txt 10 n)).size ≤ maxLen := le_max (by rw [ba_size]; omega)
  have p1 : parseL (ba (48 :: 120 :: txt 16 n)).data.toList = (n, 0) := hex_parse _ (by omega)
  have p2 : parseL (ba (txt 10 n)).data.toList = (n, 0) := dec_parse _ (by omega)
  clear w0 w1 b1 b2
  go_enter Try.func10, Try.ntmps10
  go_wp2_with (first | (go_at_call 11; refine (awake_any _).mono ?_; rintro e w' ⟨rfl, m, rfl⟩) | (go_at_call 29; refine (hex_any _ _ hx).mono ?_; rintro e w' ⟨rfl, hb1⟩) | (go_at_call 30; refine (dec_any _ _ hx).mono ?_; rintro e w' ⟨rfl, m, rfl⟩) | (go_at_call 31; refine (rhex_any _ _ hx).mono ?_; rintro e w' ⟨rfl, m, rfl⟩) | (go_at_call 32; refine (rdec_any _ _ hx).mono ?_; rintro e w' ⟨rfl, m, rfl⟩) | (go_at_call 33; refine (int_any _ _ hn).mono ?_; rintro e w' ⟨rfl, m, rfl⟩) | (go_at_call 34; refine (rint_any _ _ hn).mono ?_; rintro e w' ⟨rfl, m, rfl⟩) | (go_at_call 12; refine (parse_any _ _ (by first | exact hz1 | exact hz2)).mono ?_; rintro e w' ⟨rfl, m, rfl⟩))
  go_ret
  exact ⟨rfl, (by repeat (first | exact Below.refl _ _ | assumption | refine below_drewN ?_ _ | refine below_alloc ?_ _ | refine below_trans ?_ (by assumption)))⟩

set_option maxRecDepth 100000 in
theorem lifted (os : Os) (started : os.Started) (H : Type) (enc : TypeId × Value → H) :
    ReturnsInHanded {} Try.checked os 10 .any (Rows.fieldTextsSpec.pre6 enc Try.prog Try.f10 Rows.fieldTextsRow.domain false) (Rows.fieldTextsSpec.post enc Try.prog Try.f10 false true false false) := by
  refine returnsInHanded_of_change (C := Try.checked) own started (by kernel_rfl) Try.func10
    (ChangeSpec.witness6 (enc := enc) (C := Try.checked) false ⟨#[], #[.int .u64 0, .int .i64 0], []⟩ 8 (by kernel_rfl) (by kernel_rfl) (by kernel_rfl) (by kernel_rfl)) ?_
  intro W base args ds gs before hval0 hW hcnd _
  have hval : ∀ (j : Nat) t v, Try.f10.params[j]? = some t → args[j]? = some v → Value.okWide Try.prog W .any base t v := hval0
  have hW' := hW
  obtain ⟨p, q, hA0, hV, rfl, hfz, hnd⟩ := hW
  have hA : DataW.TrodAll enc Try.prog W 0 (fun _ => true) true Try.f10.params.toList args.toList ds p := hA0
  rw [Try.params10] at hA hval
  obtain ⟨v0, vs0, d0, ds0, p0, q0, hargs, rfl, rfl, h0, r0⟩ := trodAll_cons hA
  obtain ⟨v1, vs1, d1, ds1, p1, q1, rfl, rfl, rfl, h1, r1⟩ := trodAll_cons r0
  obtain ⟨rfl, rfl, rfl⟩ := trodAll_nil r1
  obtain rfl : args = #[v0, v1] := by cases args; simp_all
  obtain ⟨rfl, rfl⟩ := trodVars_none hV
  obtain ⟨a0, rfl, rfl, rfl, w0⟩ := open_int Try.underlying23 (hval 0 23 v0 rfl rfl) h0
  obtain ⟨a1, rfl, rfl, rfl, w1⟩ := open_int Try.underlying3 (hval 1 3 v1 rfl rfl) h1
  clear hA0 hval0
  refine (walk a0 a1 W w0 w1).mono fun e W' ⟨he, bel⟩ => ?_
  subst he
  exact ⟨_, rfl, _, _, _, [], _, [], hW', trodAll_mk1 (shut_bool Try.underlying4 _), (trodAll_cons_mk (shut_int Try.underlying23 w0) (trodAll_cons_mk (shut_int Try.underlying3 w1) trodAll_mk0)), rfl, bel.frame _, fun h => by cases h⟩

theorem over : Rows.fieldTextsRow.holds Try.pinned (OpenSpec.ofChange Rows.fieldTextsSpec) :=
  OpenClaim.holds_of_wide 10 Try.f10 rfl rfl rfl rfl rfl rfl rfl ⟨rfl, rfl, rfl, rfl, rfl⟩ rfl rfl rfl rfl rfl (by kernel_rfl) Try.func10 (by kernel_rfl)
    (of_decide_eq_true (by kernel_rfl)) (by unfold Func.isWrapper; first | (rw [if_pos (by decide +kernel)]; kernel_rfl) | (rw [if_neg (by decide +kernel)]; exact ⟨rfl, rfl⟩))
    (fun os started H enc _ => lifted os started H enc)

theorem proved : Rows.FieldTextsSaid := over
#print axioms proved
end Go.Proofs.Ytdkjokffeeiilaa.fieldTexts
