/- Two relations one behind the other, and a relation the other way round, have just the pairs that they should: as the document says, for every input. -/
import Derived.Test.YtmiajpoclgdhbaaDoorCards
import Derived.Test.YtmiajpoclgdhbaaDoorTie
import Derived.Test.YtmiajpoclgdhbaaDoorRows
import Derived.WalkKit
import Derived.ProofKit
import Derived.OpenShut
import Derived.Deep.DeepHandedRow
import Derived.Lib.LaidTab
import Derived.Test.YtmiajpoclgdhbaaDoorBase
import Derived.ShutString
import Derived.ChangeOld
import Derived.Lib.SmallJoins
import Derived.Test.YtmiajpoclgdhbaaDoorRelLaid
import Derived.Test.YtmiajpoclgdhbaaDoorRelEx
import Derived.Test.YtmiajpoclgdhbaaDoorRelBoth
namespace Go.Proofs.YtmiajpoclgdhbaaDoor.relThen
open Go.ChangeShapes Go.WideShapes Go.ChangeAt Go.RowKit
set_option linter.unusedVariables false
set_option linter.unusedSimpArgs false

theorem own : ownKnob Tryd.prog.godebug = none := by kernel_rfl
theorem laidOut : laidOutB Tryd.prog = true := by kernel_rfl

set_option maxRecDepth 100000 in
set_option maxHeartbeats 4000000 in
theorem walk (n : Int) (p : Option Addr) (c : Nat) (l : List (Int × Int)) (p2 : Option Addr) (c2 : Nat) (l2 : List (Int × Int)) (w : World) (_ : (Lit.int .i64 n).wf = true) (hl : l.length ≤ 9223372036854775807) (hc : l.length ≤ c) (hp : Rds w 2 p l.length (pairCells l)) (hl2 : l2.length ≤ 9223372036854775807) (hc2 : l2.length ≤ c2) (hp2 : Rds w 2 p2 l2.length (pairCells l2)) (hT : TabW w) :
    Calls Tryd.prog 11 #[.int .i64 n, .slice p l.length c, .slice p2 l2.length c2] w fun e w' => e = .returned (.bool true) ∧ Below w.heap.size w w' := by
  have HP := Lib.hid hp
  have HP2 := Lib.hid hp2
  have HT := Lib.hid hT
  have HB := Lib.hid (Below.refl w.heap.size w)
  clear hp hp2 hT
  go_enter Tryd.func11, Tryd.ntmps11
  have HC := Lib.hid (awake_any w HT.out)
  go_wp2_with fail
  refine (HC.out).mono ?_
  rintro e w1 ⟨rfl, hb⟩
  have HP := Lib.hid (HP.out.below hb)
  have HP2 := Lib.hid (HP2.out.below hb)
  have HT := Lib.hid (HT.out.belowS hb)
  have HB := Lib.hid (below_trans HB.out hb)
  clear HC hb 
  have HC := Lib.hid (both_any n l p c w1 hl HP.out hc)
  go_wp2_with fail
  refine (HC.out).mono ?_
  rintro e w2 ⟨hb, ⟨hbad, rfl⟩ | ⟨hok, N, t, h, g, rfl, hN, _, _, _, rfl, hta, hr⟩⟩
  · have HB := Lib.hid (below_trans HB.out hb)
    have HC := Lib.hid (both_any n l2 p2 c2 w2 hl2 (HP2.out.below hb) hc2)
    clear hb hbad HT HP HP2
    go_wp2_with fail
    refine (HC.out).mono ?_
    rintro e w3 ⟨hb, ⟨hbad, rfl⟩ | ⟨hok, N, t, h, g, rfl, hN, _, _, _, rfl, hta, hr⟩⟩
    · have HB := Lib.hid (below_trans HB.out hb)
      clear hb hbad HC
      go_wp2_with fail
      go_ret
      exact ⟨rfl, HB.out⟩
    · have HB := Lib.hid (below_trans HB.out hb)
      clear hb hok HC hta hr
      go_wp2_with fail
      go_ret
      exact ⟨rfl, HB.out⟩
  clear HC
  have HP := Lib.hid (HP.out.below hb)
  have HP2 := Lib.hid (HP2.out.below hb)
  have HT := Lib.hid (HT.out.belowS hb)
  have HB := Lib.hid (below_trans HB.out hb)
  clear hb HP
  have HS1 := Lib.hid (both_says hok (by omega))
  have HR := Lib.hid hr
  have HTA := Lib.hid hta
  clear hok hr hta
  have HC := Lib.hid (both_any N l2 p2 c2 w2 hl2 HP2.out hc2)
  go_wp2_with fail
  refine (HC.out).mono ?_
  rintro e w3 ⟨hb, ⟨hbad, rfl⟩ | ⟨hok, N2, t2, h2, g2, hNe, hN2, _, _, _, rfl, hta, hr⟩⟩
  · have HB := Lib.hid (below_trans HB.out hb)
    clear hb hbad HC HR HTA HS1 HT HP2
    go_wp2_with fail
    go_ret
    exact ⟨rfl, HB.out⟩
  obtain rfl : N = N2 := by omega
  clear HC hNe
  have HP2 := Lib.hid (HP2.out.below hb)
  have HT := Lib.hid (HT.out.belowS hb)
  have HR := Lib.hid (HR.out.below hb)
  have HTA := Lib.hid (HTA.out.keep hb)
  have HB := Lib.hid (below_trans HB.out hb)
  clear hb HP2
  have HS2 := Lib.hid (both_says hok (by omega))
  have HR2 := Lib.hid hr
  have HTA2 := Lib.hid hta
  clear hok hr hta
  have HC := Lib.hid (then_ex h g N h2 g2 _ _ w3 HR.out HR2.out (by omega) (says_wf HS1.out) HT.out)
  go_wp2_with fail
  refine (HC.out).mono ?_
  rintro e w4 ⟨hx, gx, rfl, hrx, hb⟩
  have HT := Lib.hid (HT.out.belowS hb)
  have HR := Lib.hid (HR.out.below hb)
  have HTA := Lib.hid (HTA.out.keep hb)
  have HR2 := Lib.hid (HR2.out.below hb)
  have HTA2 := Lib.hid (HTA2.out.keep hb)
  have HB := Lib.hid (below_trans HB.out hb)
  have HX := Lib.hid hrx
  clear HC hb hrx
  have HC := Lib.hid (tthen_ex t t2 N _ _ w4 HTA.out HTA2.out (by omega))
  go_wp2_with fail
  refine (HC.out).mono ?_
  rintro e w5 ⟨tx, rfl, htx, hb⟩
  have HT := Lib.hid (HT.out.belowS hb)
  have HR := Lib.hid (HR.out.below hb)
  have HTA := Lib.hid (HTA.out.keep hb)
  have HR2 := Lib.hid (HR2.out.below hb)
  have HTA2 := Lib.hid (HTA2.out.keep hb)
  have HX := Lib.hid (HX.out.below hb)
  have HB := Lib.hid (below_trans HB.out hb)
  have HTX := Lib.hid htx
  clear HC hb htx
  have HC := Lib.hid (is_any hx gx N tx _ _ w5 HX.out HTX.out (then_says (by omega) HS1.out HS2.out) (by omega) HT.out)
  go_wp2_with fail
  refine (HC.out).mono ?_
  rintro e w6 ⟨rfl, hb⟩
  have HT := Lib.hid (HT.out.belowS hb)
  have HR := Lib.hid (HR.out.below hb)
  have HTA := Lib.hid (HTA.out.keep hb)
  have HR2 := Lib.hid (HR2.out.below hb)
  have HTA2 := Lib.hid (HTA2.out.keep hb)
  have HX := Lib.hid (HX.out.below hb)
  have HTX := Lib.hid (HTX.out.keep hb)
  have HB := Lib.hid (below_trans HB.out hb)
  clear HC hb 
  clear HX HTX HR2 HTA2
  have HC := Lib.hid (inv_ex h g N _ w6 HR.out (by omega) (says_wf HS1.out) HT.out)
  go_wp2_with fail
  refine (HC.out).mono ?_
  rintro e w7 ⟨hi, gi, rfl, hri, hb⟩
  have HT := Lib.hid (HT.out.belowS hb)
  have HR := Lib.hid (HR.out.below hb)
  have HTA := Lib.hid (HTA.out.keep hb)
  have HB := Lib.hid (below_trans HB.out hb)
  have HI := Lib.hid hri
  clear HC hb hri
  have HC := Lib.hid (tinv_ex t N _ w7 HTA.out (by omega))
  go_wp2_with fail
  refine (HC.out).mono ?_
  rintro e w8 ⟨ti, rfl, hti, hb⟩
  have HT := Lib.hid (HT.out.belowS hb)
  have HR := Lib.hid (HR.out.below hb)
  have HTA := Lib.hid (HTA.out.keep hb)
  have HI := Lib.hid (HI.out.below hb)
  have HB := Lib.hid (below_trans HB.out hb)
  have HTI := Lib.hid hti
  clear HC hb hti
  have HC := Lib.hid (is_any hi gi N ti _ _ w8 HI.out HTI.out (inv_says (by omega) HS1.out) (by omega) HT.out)
  go_wp2_with fail
  refine (HC.out).mono ?_
  rintro e w9 ⟨rfl, hb⟩
  have HT := Lib.hid (HT.out.belowS hb)
  have HR := Lib.hid (HR.out.below hb)
  have HTA := Lib.hid (HTA.out.keep hb)
  have HI := Lib.hid (HI.out.below hb)
  have HTI := Lib.hid (HTI.out.keep hb)
  have HB := Lib.hid (below_trans HB.out hb)
  clear HC hb 
  clear HI HTI HTA
  have HC := Lib.hid (inv_ex h g N _ w9 HR.out (by omega) (says_wf HS1.out) HT.out)
  go_wp2_with fail
  refine (HC.out).mono ?_
  rintro e w10 ⟨hi2, gi2, rfl, hri, hb⟩
  have HT := Lib.hid (HT.out.belowS hb)
  have HR := Lib.hid (HR.out.below hb)
  have HB := Lib.hid (below_trans HB.out hb)
  have HI := Lib.hid hri
  clear HC hb hri
  have HC := Lib.hid (inv_ex hi2 gi2 N _ w10 HI.out (by omega) (says_wf (inv_says (by omega) HS1.out)) HT.out)
  go_wp2_with fail
  refine (HC.out).mono ?_
  rintro e w11 ⟨hi3, gi3, rfl, hri, hb⟩
  have HT := Lib.hid (HT.out.belowS hb)
  have HR := Lib.hid (HR.out.below hb)
  have HI := Lib.hid (HI.out.below hb)
  have HB := Lib.hid (below_trans HB.out hb)
  have HI3 := Lib.hid hri
  clear HC hb hri
  have HSE := Lib.hid (rel_same HI3.out HR.out (by omega) (inv_says (by omega) (inv_says (by omega) HS1.out)) HS1.out)
  have HC := relsame_any hi3 gi3 N h g N _ _ w11 HI3.out HR.out (by omega) (by omega)
  rw [HSE.out] at HC
  have HC := Lib.hid HC
  go_wp2_with fail
  refine (HC.out).mono ?_
  rintro e w99 ⟨rfl, hb⟩
  have HB := Lib.hid (below_trans HB.out hb)
  clear hb HC
  go_wp2_with fail
  go_ret
  exact ⟨rfl, HB.out⟩

/-- A world for the witness: the settled one, the table holding what its initialiser lays. -/
noncomputable def laidWorld (os : Os) : World :=
  { World.holding Tryd.prog os ⟨#[], #[], []⟩ with heap := (World.holding Tryd.prog os ⟨#[], #[], []⟩).heap.modify 0 fun
      | .cells _ t frozen => .cells (TABZ.map (Value.int .u8)).toArray t frozen
      | o => o }
theorem laid_met (os : Os) : laidMet Tryd.prog Rows.relThenRow.laid ((laidWorld os).forCall (fun _ _ => 0) ⟨#[], #[.int .i64 0, .slice none 0 0, .slice none 0 0], []⟩).memory :=
  laidMet_of_run' 8 (by kernel_rfl) (by kernel_rfl)
theorem reads (os : Os) {H : Type} (enc : TypeId × Value → H) : ∃ places, DataW.whole enc Tryd.prog ((laidWorld os).forCall (fun _ _ => 0) ⟨#[], #[.int .i64 0, .slice none 0 0, .slice none 0 0], []⟩).memory Tryd.f11.params.toList Rows.relThenSpec.vars false (#[.int .i64 0, .slice none 0 0, .slice none 0 0] : Array Value).toList 8 = some ([.lit (.int .i64 0), .nil, .nil], [], places) :=
  ⟨[], by kernel_rfl⟩

set_option maxRecDepth 100000 in
theorem lifted (os : Os) (started : os.Started) (H : Type) (enc : TypeId × Value → H) (F : Stop.Interp) :
    ReturnsInHanded {} Tryd.checked os 11 .any ((OpenSpec.ofChange Rows.relThenSpec).preRow enc Tryd.prog Tryd.f11 Rows.relThenRow.domain false Rows.relThenRow.laid) (((OpenSpec.ofChange Rows.relThenSpec).at F).post enc Tryd.prog Tryd.f11 false true false false) := by
  obtain ⟨places, hx⟩ := reads os enc
  refine returnsInHanded_of_row (C := Tryd.checked) (s := OpenSpec.ofChange Rows.relThenSpec) own started (by kernel_rfl) Tryd.func11
    (witness_row_at (enc := enc) (C := Tryd.checked) false (laidWorld os) #[.int .i64 0, .slice none 0 0, .slice none 0 0] rfl (by kernel_rfl) (by kernel_rfl) (by kernel_rfl)
      (OpenSpec.preRow_of_cond 8 hx (by kernel_rfl) (fun k hk => by cases hk) (by kernel_rfl) (laid_met os))) ?_
  intro W base args ds gs before hval0 hW _ _ _ hL _ _
  have hT : TabW W := tabW_of hL
  have hval : ∀ (j : Nat) t v, Tryd.f11.params[j]? = some t → args[j]? = some v → Value.okWide Tryd.prog W .any base t v := hval0
  have hW' := hW
  obtain ⟨p, q, hA0, hV, rfl, hfz, hnd⟩ := hW
  have hA : DataW.TrodAll enc Tryd.prog W 0 (fun _ => true) true Tryd.f11.params.toList args.toList ds p := hA0
  rw [Tryd.params11] at hA hval
  obtain ⟨v0, vs0, d0, ds0, p0, q0, hargs, rfl, rfl, h0, r0⟩ := trodAll_cons hA
  obtain ⟨v1, vs1, d1, ds1, p1, q1, rfl, rfl, rfl, h1, r1⟩ := trodAll_cons r0
  obtain ⟨v2, vs2, d2, ds2, p2, q2, rfl, rfl, rfl, h2, r2⟩ := trodAll_cons r1
  obtain ⟨rfl, rfl, rfl⟩ := trodAll_nil r2
  obtain rfl : args = #[v0, v1, v2] := by cases args; simp_all
  obtain ⟨rfl, rfl⟩ := trodVars_none hV
  obtain ⟨a0, rfl, rfl, rfl, w0⟩ := open_int Tryd.underlying3 (hval 0 3 v0 rfl rfl) h0
  have k1 := h1
  have lt1 : ∀ x ∈ p1, x.block < W.heap.size := by obtain ⟨m, hm⟩ := k1; exact DataW.trod_lt m _ _ _ hm
  obtain ⟨pp1, cc1, ll1, rfl, za1, zb1, zc1⟩ := open_pairs (hval 1 22 v1 rfl rfl) h1
  have k2 := h2
  have lt2 : ∀ x ∈ p2, x.block < W.heap.size := by obtain ⟨m, hm⟩ := k2; exact DataW.trod_lt m _ _ _ hm
  obtain ⟨pp2, cc2, ll2, rfl, za2, zb2, zc2⟩ := open_pairs (hval 2 22 v2 rfl rfl) h2
  clear hA0 hval0
  refine (walk a0 pp1 cc1 ll1 pp2 cc2 ll2 W w0 za1 zb1 zc1 za2 zb2 zc2 hT).mono fun e W' ⟨he, bel⟩ => ?_
  subst he
  exact ⟨_, rfl, _, _, _, [], _, [], hW', trodAll_mk1 (shut_bool Tryd.underlying4 _), (trodAll_cons_mk (shut_int Tryd.underlying3 w0) (trodAll_cons_mk (Below.trod laidOut (by kernel_rfl) (of_decide_eq_true (by kernel_rfl)) k1 bel lt1) (trodAll_cons_mk (Below.trod laidOut (by kernel_rfl) (of_decide_eq_true (by kernel_rfl)) k2 bel lt2) trodAll_mk0))), rfl, bel.frame _, fun h => by cases h⟩

theorem said : Rows.RelThenSaid :=
  OpenClaim.holds_of_cond 11 Tryd.f11 rfl rfl rfl rfl rfl rfl rfl ⟨rfl, rfl, rfl, rfl, rfl⟩ rfl rfl rfl rfl rfl (by kernel_rfl) Tryd.func11 (by kernel_rfl)
    (of_decide_eq_true (by kernel_rfl)) (by unfold Func.isWrapper; first | (rw [if_pos (by decide +kernel)]; kernel_rfl) | (rw [if_neg (by decide +kernel)]; exact ⟨rfl, rfl⟩))
    (fun os started H enc _ F => by rw [OpenClaim.pre_eq_preRow]; exact lifted os started H enc F)
/-- No parameter wants a stand-in; the program's own looks are off. -/
theorem plain (f : FuncId) (fn : Func) (hf : Tryd.pinned.checked.prog.funcNamed Rows.relThenRow.func = some f) (hfn : Tryd.pinned.checked.prog.funcs[f]? = some fn) :
    false = Tryd.pinned.checked.prog.looks [] ∧ ∀ (j : Nat) t, fn.params[j]? = some t → Tryd.pinned.checked.prog.wantsStandIn t = false := by
  obtain rfl : f = 11 := Option.some.inj ((show Tryd.prog.funcNamed Rows.relThenRow.func = some 11 by kernel_rfl).symm.trans hf) |>.symm
  obtain rfl : fn = Tryd.f11 := (Option.some.inj (Tryd.func11.symm.trans hfn)).symm
  refine ⟨by kernel_rfl, fun j t ht => ?_⟩
  rw [Tryd.params11] at ht
  have hm := Array.mem_of_getElem? ht
  simp at hm
  rcases hm with rfl | rfl
  all_goals exact (show Tryd.prog.wantsStandIn _ = false by kernel_rfl)
/-- The card. -/
theorem proved : Rows.RelThenCardSaid :=
  Claim7.holds_tied_plain_at .later [] _ _ _ _ said (fun _ h => by cases h) (by kernel_rfl) (fun _ h => by cases h) relThen_row_tie rfl ⟨rfl, rfl⟩ (by kernel_rfl) rfl plain (by kernel_rfl)
#print axioms proved
end Go.Proofs.YtmiajpoclgdhbaaDoor.relThen
