/- What can be reached in steps is all that, and no more; and twice is as once: as the document says, for every input. -/
import Derived.Test.YtmiajpoclgdhbaaDoorCards
import Derived.Test.YtmiajpoclgdhbaaDoorTie
import Derived.Test.YtmiajpoclgdhbaaDoorRows
import Derived.WalkKit
import Derived.ProofKit
import Derived.OpenShut
import Derived.Deep.DeepHandedRow
import Derived.Lib.LaidTab
import Derived.Test.YtmiajpoclgdhbaaDoorBase
import Derived.ShutString
import Derived.ChangeOld
import Derived.Lib.SmallJoins
import Derived.Test.YtmiajpoclgdhbaaDoorRelLaid
import Derived.Test.YtmiajpoclgdhbaaDoorRelTClos
import Derived.Test.YtmiajpoclgdhbaaDoorRelBoth
namespace Go.Proofs.YtmiajpoclgdhbaaDoor.relClosure
open Go.ChangeShapes Go.WideShapes Go.ChangeAt Go.RowKit
set_option linter.unusedVariables false
set_option linter.unusedSimpArgs false

theorem own : ownKnob Tryd.prog.godebug = none := by kernel_rfl
theorem laidOut : laidOutB Tryd.prog = true := by kernel_rfl

set_option maxRecDepth 100000 in
set_option maxHeartbeats 4000000 in
theorem walk (n : Int) (p : Option Addr) (c : Nat) (l : List (Int × Int)) (w : World) (_ : (Lit.int .i64 n).wf = true) (hl : l.length ≤ 9223372036854775807) (hc : l.length ≤ c) (hp : Rds w 2 p l.length (pairCells l)) (hT : TabW w) :
    Calls Tryd.prog 8 #[.int .i64 n, .slice p l.length c] w fun e w' => e = .returned (.bool true) ∧ Below w.heap.size w w' := by
  have HP := Lib.hid hp
  have HT := Lib.hid hT
  have HB := Lib.hid (Below.refl w.heap.size w)
  clear hp hT
  go_enter Tryd.func8, Tryd.ntmps8
  have HC := Lib.hid (awake_any w HT.out)
  go_wp2_with fail
  refine (HC.out).mono ?_
  rintro e w1 ⟨rfl, hb⟩
  have HP := Lib.hid (HP.out.below hb)
  have HT := Lib.hid (HT.out.belowS hb)
  have HB := Lib.hid (below_trans HB.out hb)
  clear HC hb 
  have HC := Lib.hid (both_any n l p c w1 hl HP.out hc)
  go_wp2_with fail
  refine (HC.out).mono ?_
  rintro e w2 ⟨hb, ⟨hbad, rfl⟩ | ⟨hok, N, t, h, g, rfl, hN, _, _, _, rfl, hta, hr⟩⟩
  · have HB := Lib.hid (below_trans HB.out hb)
    clear hb hbad HT HP HC
    go_wp2_with fail
    go_ret
    exact ⟨rfl, HB.out⟩
  clear HC
  have HP := Lib.hid (HP.out.below hb)
  have HT := Lib.hid (HT.out.belowS hb)
  have HB := Lib.hid (below_trans HB.out hb)
  clear hb HP
  have HS1 := Lib.hid (both_says hok (by omega))
  have HR := Lib.hid hr
  have HTA := Lib.hid hta
  clear hok hr hta
  have HC := Lib.hid (clos_ex h g N _ w2 HR.out (by omega))
  go_wp2_with fail
  refine (HC.out).mono ?_
  rintro e w3 ⟨hx, gx, rfl, hrx, hb⟩
  have HT := Lib.hid (HT.out.belowS hb)
  have HR := Lib.hid (HR.out.below hb)
  have HTA := Lib.hid (HTA.out.keep hb)
  have HB := Lib.hid (below_trans HB.out hb)
  have HX := Lib.hid hrx
  clear HC hb hrx
  have HC := Lib.hid (tclos_any t N _ w3 HTA.out (by omega))
  go_wp2_with fail
  refine (HC.out).mono ?_
  rintro e w4 ⟨tx, U, rfl, htx, hu, hb⟩
  have HT := Lib.hid (HT.out.belowS hb)
  have HR := Lib.hid (HR.out.below hb)
  have HTA := Lib.hid (HTA.out.keep hb)
  have HX := Lib.hid (HX.out.below hb)
  have HB := Lib.hid (below_trans HB.out hb)
  have HTX := Lib.hid htx
  clear HC hb htx
  have HSX := Lib.hid (clos_says (by omega) HR.out.len HS1.out hu)
  have HSY := Lib.hid (clos_says (by omega) HX.out.len HSX.out hu.self)
  clear hu
  have HC := Lib.hid (is_any hx gx N tx _ _ w4 HX.out HTX.out HSX.out (by omega) HT.out)
  go_wp2_with fail
  refine (HC.out).mono ?_
  rintro e w5 ⟨rfl, hb⟩
  have HT := Lib.hid (HT.out.belowS hb)
  have HR := Lib.hid (HR.out.below hb)
  have HTA := Lib.hid (HTA.out.keep hb)
  have HX := Lib.hid (HX.out.below hb)
  have HTX := Lib.hid (HTX.out.keep hb)
  have HB := Lib.hid (below_trans HB.out hb)
  clear HC hb 
  clear HTX
  have HC := Lib.hid (clos_ex hx gx N _ w5 HX.out (by omega))
  go_wp2_with fail
  refine (HC.out).mono ?_
  rintro e w6 ⟨hy, gy, rfl, hrx, hb⟩
  have HT := Lib.hid (HT.out.belowS hb)
  have HR := Lib.hid (HR.out.below hb)
  have HTA := Lib.hid (HTA.out.keep hb)
  have HX := Lib.hid (HX.out.below hb)
  have HB := Lib.hid (below_trans HB.out hb)
  have HY := Lib.hid hrx
  clear HC hb hrx
  have HSE := Lib.hid (rel_same HY.out HX.out (by omega) HSY.out HSX.out)
  have HC0 := relsame_any hy gy N hx gx N _ _ w6 HY.out HX.out (by omega) (by omega)
  rw [HSE.out] at HC0
  have HC0 := Lib.hid HC0
  have HC := Lib.hid (HC0.out)
  go_wp2_with fail
  refine (HC.out).mono ?_
  rintro e w7 ⟨rfl, hb⟩
  have HT := Lib.hid (HT.out.belowS hb)
  have HR := Lib.hid (HR.out.below hb)
  have HTA := Lib.hid (HTA.out.keep hb)
  have HX := Lib.hid (HX.out.below hb)
  have HY := Lib.hid (HY.out.below hb)
  have HB := Lib.hid (below_trans HB.out hb)
  clear HC hb HC0
  have HC := Lib.hid (is_any h g N t _ _ w7 HR.out HTA.out HS1.out (by omega) HT.out)
  go_wp2_with fail
  refine (HC.out).mono ?_
  rintro e w8 ⟨rfl, hb⟩
  have HT := Lib.hid (HT.out.belowS hb)
  have HR := Lib.hid (HR.out.below hb)
  have HTA := Lib.hid (HTA.out.keep hb)
  have HX := Lib.hid (HX.out.below hb)
  have HY := Lib.hid (HY.out.below hb)
  have HB := Lib.hid (below_trans HB.out hb)
  clear HC hb 
  go_wp2_with fail
  go_ret
  exact ⟨rfl, HB.out⟩

/-- A world for the witness: the settled one, the table holding what its initialiser lays. -/
noncomputable def laidWorld (os : Os) : World :=
  { World.holding Tryd.prog os ⟨#[], #[], []⟩ with heap := (World.holding Tryd.prog os ⟨#[], #[], []⟩).heap.modify 0 fun
      | .cells _ t frozen => .cells (TABZ.map (Value.int .u8)).toArray t frozen
      | o => o }
theorem laid_met (os : Os) : laidMet Tryd.prog Rows.relClosureRow.laid ((laidWorld os).forCall (fun _ _ => 0) ⟨#[], #[.int .i64 0, .slice none 0 0], []⟩).memory :=
  laidMet_of_run' 8 (by kernel_rfl) (by kernel_rfl)
theorem reads (os : Os) {H : Type} (enc : TypeId × Value → H) : ∃ places, DataW.whole enc Tryd.prog ((laidWorld os).forCall (fun _ _ => 0) ⟨#[], #[.int .i64 0, .slice none 0 0], []⟩).memory Tryd.f8.params.toList Rows.relClosureSpec.vars false (#[.int .i64 0, .slice none 0 0] : Array Value).toList 8 = some ([.lit (.int .i64 0), .nil], [], places) :=
  ⟨[], by kernel_rfl⟩

set_option maxRecDepth 100000 in
theorem lifted (os : Os) (started : os.Started) (H : Type) (enc : TypeId × Value → H) (F : Stop.Interp) :
    ReturnsInHanded {} Tryd.checked os 8 .any ((OpenSpec.ofChange Rows.relClosureSpec).preRow enc Tryd.prog Tryd.f8 Rows.relClosureRow.domain false Rows.relClosureRow.laid) (((OpenSpec.ofChange Rows.relClosureSpec).at F).post enc Tryd.prog Tryd.f8 false true false false) := by
  obtain ⟨places, hx⟩ := reads os enc
  refine returnsInHanded_of_row (C := Tryd.checked) (s := OpenSpec.ofChange Rows.relClosureSpec) own started (by kernel_rfl) Tryd.func8
    (witness_row_at (enc := enc) (C := Tryd.checked) false (laidWorld os) #[.int .i64 0, .slice none 0 0] rfl (by kernel_rfl) (by kernel_rfl) (by kernel_rfl)
      (OpenSpec.preRow_of_cond 8 hx (by kernel_rfl) (fun k hk => by cases hk) (by kernel_rfl) (laid_met os))) ?_
  intro W base args ds gs before hval0 hW _ _ _ hL _ _
  have hT : TabW W := tabW_of hL
  have hval : ∀ (j : Nat) t v, Tryd.f8.params[j]? = some t → args[j]? = some v → Value.okWide Tryd.prog W .any base t v := hval0
  have hW' := hW
  obtain ⟨p, q, hA0, hV, rfl, hfz, hnd⟩ := hW
  have hA : DataW.TrodAll enc Tryd.prog W 0 (fun _ => true) true Tryd.f8.params.toList args.toList ds p := hA0
  rw [Tryd.params8] at hA hval
  obtain ⟨v0, vs0, d0, ds0, p0, q0, hargs, rfl, rfl, h0, r0⟩ := trodAll_cons hA
  obtain ⟨v1, vs1, d1, ds1, p1, q1, rfl, rfl, rfl, h1, r1⟩ := trodAll_cons r0
  obtain ⟨rfl, rfl, rfl⟩ := trodAll_nil r1
  obtain rfl : args = #[v0, v1] := by cases args; simp_all
  obtain ⟨rfl, rfl⟩ := trodVars_none hV
  obtain ⟨a0, rfl, rfl, rfl, w0⟩ := open_int Tryd.underlying3 (hval 0 3 v0 rfl rfl) h0
  have k1 := h1
  have lt1 : ∀ x ∈ p1, x.block < W.heap.size := by obtain ⟨m, hm⟩ := k1; exact DataW.trod_lt m _ _ _ hm
  obtain ⟨pp1, cc1, ll1, rfl, za1, zb1, zc1⟩ := open_pairs (hval 1 22 v1 rfl rfl) h1
  clear hA0 hval0
  refine (walk a0 pp1 cc1 ll1 W w0 za1 zb1 zc1 hT).mono fun e W' ⟨he, bel⟩ => ?_
  subst he
  exact ⟨_, rfl, _, _, _, [], _, [], hW', trodAll_mk1 (shut_bool Tryd.underlying4 _), (trodAll_cons_mk (shut_int Tryd.underlying3 w0) (trodAll_cons_mk (Below.trod laidOut (by kernel_rfl) (of_decide_eq_true (by kernel_rfl)) k1 bel lt1) trodAll_mk0)), rfl, bel.frame _, fun h => by cases h⟩

theorem said : Rows.RelClosureSaid :=
  OpenClaim.holds_of_cond 8 Tryd.f8 rfl rfl rfl rfl rfl rfl rfl ⟨rfl, rfl, rfl, rfl, rfl⟩ rfl rfl rfl rfl rfl (by kernel_rfl) Tryd.func8 (by kernel_rfl)
    (of_decide_eq_true (by kernel_rfl)) (by unfold Func.isWrapper; first | (rw [if_pos (by decide +kernel)]; kernel_rfl) | (rw [if_neg (by decide +kernel)]; exact ⟨rfl, rfl⟩))
    (fun os started H enc _ F => by rw [OpenClaim.pre_eq_preRow]; exact lifted os started H enc F)
/-- No parameter wants a stand-in; the program's own looks are off. -/
theorem plain (f : FuncId) (fn : Func) (hf : Tryd.pinned.checked.prog.funcNamed Rows.relClosureRow.func = some f) (hfn : Tryd.pinned.checked.prog.funcs[f]? = some fn) :
    false = Tryd.pinned.checked.prog.looks [] ∧ ∀ (j : Nat) t, fn.params[j]? = some t → Tryd.pinned.checked.prog.wantsStandIn t = false := by
  obtain rfl : f = 8 := Option.some.inj ((show Tryd.prog.funcNamed Rows.relClosureRow.func = some 8 by kernel_rfl).symm.trans hf) |>.symm
  obtain rfl : fn = Tryd.f8 := (Option.some.inj (Tryd.func8.symm.trans hfn)).symm
  refine ⟨by kernel_rfl, fun j t ht => ?_⟩
  rw [Tryd.params8] at ht
  have hm := Array.mem_of_getElem? ht
  simp at hm
  rcases hm with rfl | rfl
  all_goals exact (show Tryd.prog.wantsStandIn _ = false by kernel_rfl)
/-- The card. -/
theorem proved : Rows.RelClosureCardSaid :=
  Claim7.holds_tied_plain_at .later [] _ _ _ _ said (fun _ h => by cases h) (by kernel_rfl) (fun _ h => by cases h) relClosure_row_tie rfl ⟨rfl, rfl⟩ (by kernel_rfl) rfl plain (by kernel_rfl)
#print axioms proved
end Go.Proofs.YtmiajpoclgdhbaaDoor.relClosure
