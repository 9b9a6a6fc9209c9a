/- The pairs of either of two relations, of both, of one alone are just these; relations over unlike numbers of things have none: as the document says, for every input. -/
import Derived.Test.YtmiajpoclgdhbaaDoorCards
import Derived.Test.YtmiajpoclgdhbaaDoorTie
import Derived.Test.YtmiajpoclgdhbaaDoorRows
import Derived.WalkKit
import Derived.ProofKit
import Derived.OpenShut
import Derived.Deep.DeepHandedRow
import Derived.Lib.LaidTab
import Derived.Test.YtmiajpoclgdhbaaDoorBase
import Derived.ShutString
import Derived.ChangeOld
import Derived.Lib.SmallJoins
import Derived.Test.YtmiajpoclgdhbaaDoorRelLaid
import Derived.Test.YtmiajpoclgdhbaaDoorRelEx
import Derived.Test.YtmiajpoclgdhbaaDoorRelBoth
namespace Go.Proofs.YtmiajpoclgdhbaaDoor.relMerges
open Go.ChangeShapes Go.WideShapes Go.ChangeAt Go.RowKit
set_option linter.unusedVariables false
set_option linter.unusedSimpArgs false

theorem own : ownKnob Tryd.prog.godebug = none := by kernel_rfl
theorem laidOut : laidOutB Tryd.prog = true := by kernel_rfl

set_option maxRecDepth 100000 in
set_option maxHeartbeats 4000000 in
theorem walk (n : Int) (p : Option Addr) (c : Nat) (l : List (Int × Int)) (p2 : Option Addr) (c2 : Nat) (l2 : List (Int × Int)) (w : World) (_ : (Lit.int .i64 n).wf = true) (hl : l.length ≤ 9223372036854775807) (hc : l.length ≤ c) (hp : Rds w 2 p l.length (pairCells l)) (hl2 : l2.length ≤ 9223372036854775807) (hc2 : l2.length ≤ c2) (hp2 : Rds w 2 p2 l2.length (pairCells l2)) (hT : TabW w) :
    Calls Tryd.prog 12 #[.int .i64 n, .slice p l.length c, .slice p2 l2.length c2] w fun e w' => e = .returned (.bool true) ∧ Below w.heap.size w w' := by
  have HP := Lib.hid hp
  have HP2 := Lib.hid hp2
  have HT := Lib.hid hT
  have HB := Lib.hid (Below.refl w.heap.size w)
  clear hp hp2 hT
  go_enter Tryd.func12, Tryd.ntmps12
  have HC := Lib.hid (awake_any w HT.out)
  go_wp2_with fail
  refine (HC.out).mono ?_
  rintro e w1 ⟨rfl, hb⟩
  have HP := Lib.hid (HP.out.below hb)
  have HP2 := Lib.hid (HP2.out.below hb)
  have HT := Lib.hid (HT.out.belowS hb)
  have HB := Lib.hid (below_trans HB.out hb)
  clear HC hb 
  have HC := Lib.hid (both_any n l p c w1 hl HP.out hc)
  go_wp2_with fail
  refine (HC.out).mono ?_
  rintro e w2 ⟨hb, ⟨hbad, rfl⟩ | ⟨hok, N, t, h, g, rfl, hN, _, _, _, rfl, hta, hr⟩⟩
  · have HB := Lib.hid (below_trans HB.out hb)
    have HC := Lib.hid (both_any n l2 p2 c2 w2 hl2 (HP2.out.below hb) hc2)
    clear hb hbad HT HP HP2
    go_wp2_with fail
    refine (HC.out).mono ?_
    rintro e w3 ⟨hb, ⟨hbad, rfl⟩ | ⟨hok, N, t, h, g, rfl, hN, _, _, _, rfl, hta, hr⟩⟩
    · have HB := Lib.hid (below_trans HB.out hb)
      clear hb hbad HC
      go_wp2_with fail
      go_ret
      exact ⟨rfl, HB.out⟩
    · have HB := Lib.hid (below_trans HB.out hb)
      clear hb hok HC hta hr
      go_wp2_with fail
      go_ret
      exact ⟨rfl, HB.out⟩
  clear HC
  have HP := Lib.hid (HP.out.below hb)
  have HP2 := Lib.hid (HP2.out.below hb)
  have HT := Lib.hid (HT.out.belowS hb)
  have HB := Lib.hid (below_trans HB.out hb)
  clear hb HP
  have HS1 := Lib.hid (both_says hok (by omega))
  have HR := Lib.hid hr
  have HTA := Lib.hid hta
  clear hok hr hta
  have HC := Lib.hid (both_any N l2 p2 c2 w2 hl2 HP2.out hc2)
  go_wp2_with fail
  refine (HC.out).mono ?_
  rintro e w3 ⟨hb, ⟨hbad, rfl⟩ | ⟨hok, N2, t2, h2, g2, hNe, hN2, _, _, _, rfl, hta, hr⟩⟩
  · have HB := Lib.hid (below_trans HB.out hb)
    clear hb hbad HC HR HTA HS1 HT HP2
    go_wp2_with fail
    go_ret
    exact ⟨rfl, HB.out⟩
  obtain rfl : N = N2 := by omega
  clear HC hNe
  have HP2 := Lib.hid (HP2.out.below hb)
  have HT := Lib.hid (HT.out.belowS hb)
  have HR := Lib.hid (HR.out.below hb)
  have HTA := Lib.hid (HTA.out.keep hb)
  have HB := Lib.hid (below_trans HB.out hb)
  clear hb HP2
  have HS2 := Lib.hid (both_says hok (by omega))
  have HR2 := Lib.hid hr
  have HTA2 := Lib.hid hta
  clear hok hr hta
  have HC := Lib.hid (union_ex h g N h2 g2 _ _ w3 HR.out HR2.out (by omega))
  go_wp2_with fail
  refine (HC.out).mono ?_
  rintro e w4 ⟨hx, gx, rfl, hrx, hb⟩
  have HT := Lib.hid (HT.out.belowS hb)
  have HR := Lib.hid (HR.out.below hb)
  have HTA := Lib.hid (HTA.out.keep hb)
  have HR2 := Lib.hid (HR2.out.below hb)
  have HTA2 := Lib.hid (HTA2.out.keep hb)
  have HB := Lib.hid (below_trans HB.out hb)
  have HX := Lib.hid hrx
  clear HC hb hrx
  have HC := Lib.hid (inter_ex h g N h2 g2 _ _ w4 HR.out HR2.out (by omega))
  go_wp2_with fail
  refine (HC.out).mono ?_
  rintro e w5 ⟨hy, gy, rfl, hrx, hb⟩
  have HT := Lib.hid (HT.out.belowS hb)
  have HR := Lib.hid (HR.out.below hb)
  have HTA := Lib.hid (HTA.out.keep hb)
  have HR2 := Lib.hid (HR2.out.below hb)
  have HTA2 := Lib.hid (HTA2.out.keep hb)
  have HX := Lib.hid (HX.out.below hb)
  have HB := Lib.hid (below_trans HB.out hb)
  have HY := Lib.hid hrx
  clear HC hb hrx
  have HC := Lib.hid (minus_ex h g N h2 g2 _ _ w5 HR.out HR2.out (by omega))
  go_wp2_with fail
  refine (HC.out).mono ?_
  rintro e w6 ⟨hz, gz, rfl, hrx, hb⟩
  have HT := Lib.hid (HT.out.belowS hb)
  have HR := Lib.hid (HR.out.below hb)
  have HTA := Lib.hid (HTA.out.keep hb)
  have HR2 := Lib.hid (HR2.out.below hb)
  have HTA2 := Lib.hid (HTA2.out.keep hb)
  have HX := Lib.hid (HX.out.below hb)
  have HY := Lib.hid (HY.out.below hb)
  have HB := Lib.hid (below_trans HB.out hb)
  have HZ := Lib.hid hrx
  clear HC hb hrx
  have HL := Lib.hid HR.out.len
  have HW1 := Lib.hid HR.out.2.2.2.wlt
  have HW2 := Lib.hid HR2.out.2.2.2.wlt
  have HC := Lib.hid (tunion_ex t t2 N _ _ w6 HTA.out HTA2.out (by omega))
  go_wp2_with fail
  refine (HC.out).mono ?_
  rintro e w7 ⟨tx, rfl, htx, hb⟩
  have HT := Lib.hid (HT.out.belowS hb)
  have HR := Lib.hid (HR.out.below hb)
  have HTA := Lib.hid (HTA.out.keep hb)
  have HR2 := Lib.hid (HR2.out.below hb)
  have HTA2 := Lib.hid (HTA2.out.keep hb)
  have HX := Lib.hid (HX.out.below hb)
  have HY := Lib.hid (HY.out.below hb)
  have HZ := Lib.hid (HZ.out.below hb)
  have HB := Lib.hid (below_trans HB.out hb)
  have HTX := Lib.hid htx
  clear HC hb htx
  have HC := Lib.hid (is_any hx gx N tx _ _ w7 HX.out HTX.out (union_says (by omega) HL.out HW1.out HW2.out HS1.out HS2.out) (by omega) HT.out)
  go_wp2_with fail
  refine (HC.out).mono ?_
  rintro e w8 ⟨rfl, hb⟩
  have HT := Lib.hid (HT.out.belowS hb)
  have HR := Lib.hid (HR.out.below hb)
  have HTA := Lib.hid (HTA.out.keep hb)
  have HR2 := Lib.hid (HR2.out.below hb)
  have HTA2 := Lib.hid (HTA2.out.keep hb)
  have HX := Lib.hid (HX.out.below hb)
  have HY := Lib.hid (HY.out.below hb)
  have HZ := Lib.hid (HZ.out.below hb)
  have HTX := Lib.hid (HTX.out.keep hb)
  have HB := Lib.hid (below_trans HB.out hb)
  clear HC hb 
  clear HX HTX
  have HC := Lib.hid (tminus_ex t t2 N _ _ w8 HTA.out HTA2.out (by omega))
  go_wp2_with fail
  refine (HC.out).mono ?_
  rintro e w9 ⟨tz, rfl, htx, hb⟩
  have HT := Lib.hid (HT.out.belowS hb)
  have HR := Lib.hid (HR.out.below hb)
  have HTA := Lib.hid (HTA.out.keep hb)
  have HR2 := Lib.hid (HR2.out.below hb)
  have HTA2 := Lib.hid (HTA2.out.keep hb)
  have HY := Lib.hid (HY.out.below hb)
  have HZ := Lib.hid (HZ.out.below hb)
  have HB := Lib.hid (below_trans HB.out hb)
  have HTZ := Lib.hid htx
  clear HC hb htx
  have HC := Lib.hid (is_any hz gz N tz _ _ w9 HZ.out HTZ.out (minus_says (by omega) HL.out HW1.out HW2.out HS1.out HS2.out) (by omega) HT.out)
  go_wp2_with fail
  refine (HC.out).mono ?_
  rintro e w10 ⟨rfl, hb⟩
  have HT := Lib.hid (HT.out.belowS hb)
  have HR := Lib.hid (HR.out.below hb)
  have HTA := Lib.hid (HTA.out.keep hb)
  have HR2 := Lib.hid (HR2.out.below hb)
  have HTA2 := Lib.hid (HTA2.out.keep hb)
  have HY := Lib.hid (HY.out.below hb)
  have HZ := Lib.hid (HZ.out.below hb)
  have HTZ := Lib.hid (HTZ.out.keep hb)
  have HB := Lib.hid (below_trans HB.out hb)
  clear HC hb 
  clear HZ HTZ
  have HC := Lib.hid (tminus_ex t t2 N _ _ w10 HTA.out HTA2.out (by omega))
  go_wp2_with fail
  refine (HC.out).mono ?_
  rintro e w11 ⟨tm, rfl, htx, hb⟩
  have HT := Lib.hid (HT.out.belowS hb)
  have HR := Lib.hid (HR.out.below hb)
  have HTA := Lib.hid (HTA.out.keep hb)
  have HR2 := Lib.hid (HR2.out.below hb)
  have HTA2 := Lib.hid (HTA2.out.keep hb)
  have HY := Lib.hid (HY.out.below hb)
  have HB := Lib.hid (below_trans HB.out hb)
  have HTM := Lib.hid htx
  clear HC hb htx
  have HC := Lib.hid (tminus_ex t tm N _ _ w11 HTA.out HTM.out (by omega))
  go_wp2_with fail
  refine (HC.out).mono ?_
  rintro e w12 ⟨ty, rfl, htx, hb⟩
  have HT := Lib.hid (HT.out.belowS hb)
  have HR := Lib.hid (HR.out.below hb)
  have HTA := Lib.hid (HTA.out.keep hb)
  have HR2 := Lib.hid (HR2.out.below hb)
  have HTA2 := Lib.hid (HTA2.out.keep hb)
  have HY := Lib.hid (HY.out.below hb)
  have HTM := Lib.hid (HTM.out.keep hb)
  have HB := Lib.hid (below_trans HB.out hb)
  have HTY := Lib.hid htx
  clear HC hb htx
  have HC := Lib.hid (is_any hy gy N ty _ _ w12 HY.out HTY.out (says_congr (inter_says (by omega) HL.out HW1.out HW2.out HS1.out HS2.out) (fun a b _ _ => by unfold tMinus; cases inL l a b <;> cases inL l2 a b <;> rfl)) (by omega) HT.out)
  go_wp2_with fail
  refine (HC.out).mono ?_
  rintro e w13 ⟨rfl, hb⟩
  have HT := Lib.hid (HT.out.belowS hb)
  have HR := Lib.hid (HR.out.below hb)
  have HTA := Lib.hid (HTA.out.keep hb)
  have HR2 := Lib.hid (HR2.out.below hb)
  have HTA2 := Lib.hid (HTA2.out.keep hb)
  have HY := Lib.hid (HY.out.below hb)
  have HTM := Lib.hid (HTM.out.keep hb)
  have HTY := Lib.hid (HTY.out.keep hb)
  have HB := Lib.hid (below_trans HB.out hb)
  clear HC hb 
  clear HY HTY HTM
  have HC := Lib.hid (show Calls Tryd.prog 28 #[.int .i64 ((N : Int) + 1)] w13 _ from new_ex (N + 1) w13 (by omega))
  go_wp2_with fail
  refine (HC.out).mono ?_
  rintro e w14 ⟨ho, go, rfl, hrx, hb⟩
  have HT := Lib.hid (HT.out.belowS hb)
  have HR := Lib.hid (HR.out.below hb)
  have HTA := Lib.hid (HTA.out.keep hb)
  have HR2 := Lib.hid (HR2.out.below hb)
  have HTA2 := Lib.hid (HTA2.out.keep hb)
  have HB := Lib.hid (below_trans HB.out hb)
  have HO := Lib.hid hrx
  clear HC hb hrx
  have HC := Lib.hid (relunion_bad h g N ho go (N + 1) _ _ w14 HR.out HO.out (by omega))
  go_wp2_with fail
  refine (HC.out).mono ?_
  rintro e w15 ⟨rfl, hb⟩
  have HT := Lib.hid (HT.out.belowS hb)
  have HR := Lib.hid (HR.out.below hb)
  have HTA := Lib.hid (HTA.out.keep hb)
  have HR2 := Lib.hid (HR2.out.below hb)
  have HTA2 := Lib.hid (HTA2.out.keep hb)
  have HO := Lib.hid (HO.out.below hb)
  have HB := Lib.hid (below_trans HB.out hb)
  clear HC hb 
  have HC := Lib.hid (relthen_bad h g N ho go (N + 1) _ _ w15 HR.out HO.out (by omega))
  go_wp2_with fail
  refine (HC.out).mono ?_
  rintro e w16 ⟨rfl, hb⟩
  have HT := Lib.hid (HT.out.belowS hb)
  have HR := Lib.hid (HR.out.below hb)
  have HTA := Lib.hid (HTA.out.keep hb)
  have HR2 := Lib.hid (HR2.out.below hb)
  have HTA2 := Lib.hid (HTA2.out.keep hb)
  have HO := Lib.hid (HO.out.below hb)
  have HB := Lib.hid (below_trans HB.out hb)
  clear HC hb 
  have HNS : sameW N (N + 1) (ofW N l) (zeros (N + 1)) = false := by unfold sameW; rw [decide_eq_false (by omega)]; rfl
  have HC0 := relsame_any h g N ho go (N + 1) _ _ w16 HR.out HO.out (by omega) (by omega)
  rw [HNS] at HC0
  have HC0 := Lib.hid HC0
  clear HNS
  have HC := Lib.hid (HC0.out)
  go_wp2_with fail
  refine (HC.out).mono ?_
  rintro e w17 ⟨rfl, hb⟩
  have HT := Lib.hid (HT.out.belowS hb)
  have HR := Lib.hid (HR.out.below hb)
  have HTA := Lib.hid (HTA.out.keep hb)
  have HR2 := Lib.hid (HR2.out.below hb)
  have HTA2 := Lib.hid (HTA2.out.keep hb)
  have HO := Lib.hid (HO.out.below hb)
  have HB := Lib.hid (below_trans HB.out hb)
  clear HC hb HC0
  have HC := Lib.hid (is_any h g N t _ _ w17 HR.out HTA.out HS1.out (by omega) HT.out)
  go_wp2_with fail
  refine (HC.out).mono ?_
  rintro e w18 ⟨rfl, hb⟩
  have HT := Lib.hid (HT.out.belowS hb)
  have HR := Lib.hid (HR.out.below hb)
  have HTA := Lib.hid (HTA.out.keep hb)
  have HR2 := Lib.hid (HR2.out.below hb)
  have HTA2 := Lib.hid (HTA2.out.keep hb)
  have HO := Lib.hid (HO.out.below hb)
  have HB := Lib.hid (below_trans HB.out hb)
  clear HC hb 
  have HC := Lib.hid (is_any h2 g2 N t2 _ _ w18 HR2.out HTA2.out HS2.out (by omega) HT.out)
  go_wp2_with fail
  refine (HC.out).mono ?_
  rintro e w19 ⟨rfl, hb⟩
  have HT := Lib.hid (HT.out.belowS hb)
  have HR := Lib.hid (HR.out.below hb)
  have HTA := Lib.hid (HTA.out.keep hb)
  have HR2 := Lib.hid (HR2.out.below hb)
  have HTA2 := Lib.hid (HTA2.out.keep hb)
  have HO := Lib.hid (HO.out.below hb)
  have HB := Lib.hid (below_trans HB.out hb)
  clear HC hb 
  go_wp2_with fail
  go_ret
  exact ⟨rfl, HB.out⟩

/-- A world for the witness: the settled one, the table holding what its initialiser lays. -/
noncomputable def laidWorld (os : Os) : World :=
  { World.holding Tryd.prog os ⟨#[], #[], []⟩ with heap := (World.holding Tryd.prog os ⟨#[], #[], []⟩).heap.modify 0 fun
      | .cells _ t frozen => .cells (TABZ.map (Value.int .u8)).toArray t frozen
      | o => o }
theorem laid_met (os : Os) : laidMet Tryd.prog Rows.relMergesRow.laid ((laidWorld os).forCall (fun _ _ => 0) ⟨#[], #[.int .i64 0, .slice none 0 0, .slice none 0 0], []⟩).memory :=
  laidMet_of_run' 8 (by kernel_rfl) (by kernel_rfl)
theorem reads (os : Os) {H : Type} (enc : TypeId × Value → H) : ∃ places, DataW.whole enc Tryd.prog ((laidWorld os).forCall (fun _ _ => 0) ⟨#[], #[.int .i64 0, .slice none 0 0, .slice none 0 0], []⟩).memory Tryd.f12.params.toList Rows.relMergesSpec.vars false (#[.int .i64 0, .slice none 0 0, .slice none 0 0] : Array Value).toList 8 = some ([.lit (.int .i64 0), .nil, .nil], [], places) :=
  ⟨[], by kernel_rfl⟩

set_option maxRecDepth 100000 in
theorem lifted (os : Os) (started : os.Started) (H : Type) (enc : TypeId × Value → H) (F : Stop.Interp) :
    ReturnsInHanded {} Tryd.checked os 12 .any ((OpenSpec.ofChange Rows.relMergesSpec).preRow enc Tryd.prog Tryd.f12 Rows.relMergesRow.domain false Rows.relMergesRow.laid) (((OpenSpec.ofChange Rows.relMergesSpec).at F).post enc Tryd.prog Tryd.f12 false true false false) := by
  obtain ⟨places, hx⟩ := reads os enc
  refine returnsInHanded_of_row (C := Tryd.checked) (s := OpenSpec.ofChange Rows.relMergesSpec) own started (by kernel_rfl) Tryd.func12
    (witness_row_at (enc := enc) (C := Tryd.checked) false (laidWorld os) #[.int .i64 0, .slice none 0 0, .slice none 0 0] rfl (by kernel_rfl) (by kernel_rfl) (by kernel_rfl)
      (OpenSpec.preRow_of_cond 8 hx (by kernel_rfl) (fun k hk => by cases hk) (by kernel_rfl) (laid_met os))) ?_
  intro W base args ds gs before hval0 hW _ _ _ hL _ _
  have hT : TabW W := tabW_of hL
  have hval : ∀ (j : Nat) t v, Tryd.f12.params[j]? = some t → args[j]? = some v → Value.okWide Tryd.prog W .any base t v := hval0
  have hW' := hW
  obtain ⟨p, q, hA0, hV, rfl, hfz, hnd⟩ := hW
  have hA : DataW.TrodAll enc Tryd.prog W 0 (fun _ => true) true Tryd.f12.params.toList args.toList ds p := hA0
  rw [Tryd.params12] at hA hval
  obtain ⟨v0, vs0, d0, ds0, p0, q0, hargs, rfl, rfl, h0, r0⟩ := trodAll_cons hA
  obtain ⟨v1, vs1, d1, ds1, p1, q1, rfl, rfl, rfl, h1, r1⟩ := trodAll_cons r0
  obtain ⟨v2, vs2, d2, ds2, p2, q2, rfl, rfl, rfl, h2, r2⟩ := trodAll_cons r1
  obtain ⟨rfl, rfl, rfl⟩ := trodAll_nil r2
  obtain rfl : args = #[v0, v1, v2] := by cases args; simp_all
  obtain ⟨rfl, rfl⟩ := trodVars_none hV
  obtain ⟨a0, rfl, rfl, rfl, w0⟩ := open_int Tryd.underlying3 (hval 0 3 v0 rfl rfl) h0
  have k1 := h1
  have lt1 : ∀ x ∈ p1, x.block < W.heap.size := by obtain ⟨m, hm⟩ := k1; exact DataW.trod_lt m _ _ _ hm
  obtain ⟨pp1, cc1, ll1, rfl, za1, zb1, zc1⟩ := open_pairs (hval 1 22 v1 rfl rfl) h1
  have k2 := h2
  have lt2 : ∀ x ∈ p2, x.block < W.heap.size := by obtain ⟨m, hm⟩ := k2; exact DataW.trod_lt m _ _ _ hm
  obtain ⟨pp2, cc2, ll2, rfl, za2, zb2, zc2⟩ := open_pairs (hval 2 22 v2 rfl rfl) h2
  clear hA0 hval0
  refine (walk a0 pp1 cc1 ll1 pp2 cc2 ll2 W w0 za1 zb1 zc1 za2 zb2 zc2 hT).mono fun e W' ⟨he, bel⟩ => ?_
  subst he
  exact ⟨_, rfl, _, _, _, [], _, [], hW', trodAll_mk1 (shut_bool Tryd.underlying4 _), (trodAll_cons_mk (shut_int Tryd.underlying3 w0) (trodAll_cons_mk (Below.trod laidOut (by kernel_rfl) (of_decide_eq_true (by kernel_rfl)) k1 bel lt1) (trodAll_cons_mk (Below.trod laidOut (by kernel_rfl) (of_decide_eq_true (by kernel_rfl)) k2 bel lt2) trodAll_mk0))), rfl, bel.frame _, fun h => by cases h⟩

theorem said : Rows.RelMergesSaid :=
  OpenClaim.holds_of_cond 12 Tryd.f12 rfl rfl rfl rfl rfl rfl rfl ⟨rfl, rfl, rfl, rfl, rfl⟩ rfl rfl rfl rfl rfl (by kernel_rfl) Tryd.func12 (by kernel_rfl)
    (of_decide_eq_true (by kernel_rfl)) (by unfold Func.isWrapper; first | (rw [if_pos (by decide +kernel)]; kernel_rfl) | (rw [if_neg (by decide +kernel)]; exact ⟨rfl, rfl⟩))
    (fun os started H enc _ F => by rw [OpenClaim.pre_eq_preRow]; exact lifted os started H enc F)
/-- No parameter wants a stand-in; the program's own looks are off. -/
theorem plain (f : FuncId) (fn : Func) (hf : Tryd.pinned.checked.prog.funcNamed Rows.relMergesRow.func = some f) (hfn : Tryd.pinned.checked.prog.funcs[f]? = some fn) :
    false = Tryd.pinned.checked.prog.looks [] ∧ ∀ (j : Nat) t, fn.params[j]? = some t → Tryd.pinned.checked.prog.wantsStandIn t = false := by
  obtain rfl : f = 12 := Option.some.inj ((show Tryd.prog.funcNamed Rows.relMergesRow.func = some 12 by kernel_rfl).symm.trans hf) |>.symm
  obtain rfl : fn = Tryd.f12 := (Option.some.inj (Tryd.func12.symm.trans hfn)).symm
  refine ⟨by kernel_rfl, fun j t ht => ?_⟩
  rw [Tryd.params12] at ht
  have hm := Array.mem_of_getElem? ht
  simp at hm
  rcases hm with rfl | rfl
  all_goals exact (show Tryd.prog.wantsStandIn _ = false by kernel_rfl)
/-- The card. -/
theorem proved : Rows.RelMergesCardSaid :=
  Claim7.holds_tied_plain_at .later [] _ _ _ _ said (fun _ h => by cases h) (by kernel_rfl) (fun _ h => by cases h) relMerges_row_tie rfl ⟨rfl, rfl⟩ (by kernel_rfl) rfl plain (by kernel_rfl)
#print axioms proved
end Go.Proofs.YtmiajpoclgdhbaaDoor.relMerges
