/- Going on by either of two relations is going on by the one, or by the other, for every input. -/
import Derived.Test.YtmiajpoclgdhbaaDoorCards
import Derived.Test.YtmiajpoclgdhbaaDoorTie
import Derived.Test.YtmiajpoclgdhbaaDoorRows
import Derived.WalkKit
import Derived.ProofKit
import Derived.OpenShut
import Derived.Deep.DeepHandedRow
import Derived.Lib.LaidTab
import Derived.Test.YtmiajpoclgdhbaaDoorBase
import Derived.ShutString
import Derived.ChangeOld
import Derived.Lib.SmallJoins
import Derived.Test.YtmiajpoclgdhbaaDoorRelLaid
import Derived.Test.YtmiajpoclgdhbaaDoorRelEx
import Derived.Test.YtmiajpoclgdhbaaDoorRelBoth
namespace Go.Proofs.YtmiajpoclgdhbaaDoor.relSpreads
open Go.ChangeShapes Go.WideShapes Go.ChangeAt Go.RowKit
set_option linter.unusedVariables false
set_option linter.unusedSimpArgs false

theorem own : ownKnob Tryd.prog.godebug = none := by kernel_rfl
theorem laidOut : laidOutB Tryd.prog = true := by kernel_rfl

/-- both over 12 things: a pointer that may be nil. -/
theorem both12 (l : List (Int × Int)) (p : Option Addr) (c : Nat) (w : World) (hl : l.length ≤ 9223372036854775807) (hp : Rds w 2 p l.length (pairCells l)) (hc : l.length ≤ c) :
    Calls Tryd.prog 14 #[.int .i64 12, .slice p l.length c] w fun e w' => Below w.heap.size w w' ∧
      ((∃ v, e = .returned (.tuple #[.pointer none, v])) ∨ ∃ h g v, e = .returned (.tuple #[.pointer (some ⟨h, 0, none⟩), v]) ∧ RelAt w' h g 12 (ofW 12 l) ∧ Says 12 (ofW 12 l) (inL l)) :=
  (both_any 12 l p c w hl hp hc).mono fun e w' h => by
    obtain ⟨hb, ⟨_, rfl⟩ | ⟨hok, N, t, h, g, hN, _, _, _, _, rfl, _, hr⟩⟩ := h
    · exact ⟨hb, .inl ⟨_, rfl⟩⟩
    · obtain rfl : N = 12 := by omega
      exact ⟨hb, .inr ⟨h, g, _, rfl, hr, both_says hok (by omega)⟩⟩
theorem spread_says {ws : List Nat} {n : Nat} {T U V : Nat → Nat → Bool} (h : Says n ws (thenT n T (tUnion U V))) : Says n ws (tUnion (thenT n T U) (thenT n T V)) :=
  says_congr h fun a b _ _ => by
    rw [Bool.eq_iff_iff]
    unfold thenT tUnion
    simp only [Bool.or_eq_true, List.any_eq_true, Bool.and_eq_true]
    constructor
    · rintro ⟨k, hk, h1, h2 | h2⟩
      · exact .inl ⟨k, hk, h1, h2⟩
      · exact .inr ⟨k, hk, h1, h2⟩
    · rintro (⟨k, hk, h1, h2⟩ | ⟨k, hk, h1, h2⟩)
      · exact ⟨k, hk, h1, .inl h2⟩
      · exact ⟨k, hk, h1, .inr h2⟩
set_option maxRecDepth 100000 in
set_option maxHeartbeats 4000000 in
theorem walk (p : Option Addr) (c : Nat) (l : List (Int × Int)) (p2 : Option Addr) (c2 : Nat) (l2 : List (Int × Int)) (p3 : Option Addr) (c3 : Nat) (l3 : List (Int × Int)) (w : World) (hl : l.length ≤ 9223372036854775807) (hc : l.length ≤ c) (hp : Rds w 2 p l.length (pairCells l)) (hl2 : l2.length ≤ 9223372036854775807) (hc2 : l2.length ≤ c2) (hp2 : Rds w 2 p2 l2.length (pairCells l2)) (hl3 : l3.length ≤ 9223372036854775807) (hc3 : l3.length ≤ c3) (hp3 : Rds w 2 p3 l3.length (pairCells l3)) (hT : TabW w) :
    Calls Tryd.prog 5 #[.slice p l.length c, .slice p2 l2.length c2, .slice p3 l3.length c3] w fun e w' => e = .returned (.bool true) ∧ Below w.heap.size w w' := by
  have HP := Lib.hid hp
  have HP2 := Lib.hid hp2
  have HP3 := Lib.hid hp3
  have HT := Lib.hid hT
  have HB := Lib.hid (Below.refl w.heap.size w)
  clear hp hp2 hp3 hT
  go_enter Tryd.func5, Tryd.ntmps5
  have HC := Lib.hid (awake_any w HT.out)
  go_wp2_with fail
  refine (HC.out).mono ?_
  rintro e w1 ⟨rfl, hb⟩
  have HP := Lib.hid (HP.out.below hb)
  have HP2 := Lib.hid (HP2.out.below hb)
  have HP3 := Lib.hid (HP3.out.below hb)
  have HT := Lib.hid (HT.out.belowS hb)
  have HB := Lib.hid (below_trans HB.out hb)
  clear HC hb 
  have HC := Lib.hid (both12 l p c w1 hl HP.out hc)
  go_wp2_with fail
  refine (HC.out).mono ?_
  rintro e w2 ⟨hb, hr⟩
  have HP := Lib.hid (HP.out.below hb)
  have HP2 := Lib.hid (HP2.out.below hb)
  have HP3 := Lib.hid (HP3.out.below hb)
  have HT := Lib.hid (HT.out.belowS hb)
  have HB := Lib.hid (below_trans HB.out hb)
  clear HC hb HP
  have HC := Lib.hid (both12 l2 p2 c2 w2 hl2 HP2.out hc2)
  have HC3 := Lib.hid (fun (w3 : World) (hb : Below w2.heap.size w2 w3) => both12 l3 p3 c3 w3 hl3 (HP3.out.below hb) hc3)
  rcases hr with ⟨v, rfl⟩ | ⟨h, g, v, rfl, hr, hs⟩
  · clear HP2 HP3 HT
    go_wp2_with fail
    refine (HC.out).mono ?_
    rintro e w3 ⟨hb, ⟨v2, rfl⟩ | ⟨h2, g2, v2, rfl, hr2, hs2⟩⟩
    · have HC3 := Lib.hid (HC3.out w3 hb)
      have HB := Lib.hid (below_trans HB.out hb)
      clear hb HC
      go_wp2_with fail
      refine (HC3.out).mono ?_
      rintro e w4 ⟨hb, ⟨v3, rfl⟩ | ⟨h3, g3, v3, rfl, hr3, hs3⟩⟩
      · have HB := Lib.hid (below_trans HB.out hb)
        clear hb HC3
        go_wp2_with fail
        go_ret
        exact ⟨rfl, HB.out⟩
      · have HB := Lib.hid (below_trans HB.out hb)
        clear hb HC3 hr3 hs3
        go_wp2_with fail
        go_ret
        exact ⟨rfl, HB.out⟩
    · have HC3 := Lib.hid (HC3.out w3 hb)
      have HB := Lib.hid (below_trans HB.out hb)
      clear hb HC hr2 hs2
      go_wp2_with fail
      refine (HC3.out).mono ?_
      rintro e w4 ⟨hb, ⟨v3, rfl⟩ | ⟨h3, g3, v3, rfl, hr3, hs3⟩⟩
      · have HB := Lib.hid (below_trans HB.out hb)
        clear hb HC3
        go_wp2_with fail
        go_ret
        exact ⟨rfl, HB.out⟩
      · have HB := Lib.hid (below_trans HB.out hb)
        clear hb HC3 hr3 hs3
        go_wp2_with fail
        go_ret
        exact ⟨rfl, HB.out⟩
  have HR := Lib.hid hr
  have HS1 := Lib.hid hs
  clear hr hs HP2 HP3
  go_wp2_with fail
  refine (HC.out).mono ?_
  rintro e w3 ⟨hb, ⟨v2, rfl⟩ | ⟨h2, g2, v2, rfl, hr2, hs2⟩⟩
  · have HC3 := Lib.hid (HC3.out w3 hb)
    have HB := Lib.hid (below_trans HB.out hb)
    clear hb HC HR HS1 HT
    go_wp2_with fail
    refine (HC3.out).mono ?_
    rintro e w4 ⟨hb, ⟨v3, rfl⟩ | ⟨h3, g3, v3, rfl, hr3, hs3⟩⟩
    · have HB := Lib.hid (below_trans HB.out hb)
      clear hb HC3
      go_wp2_with fail
      go_ret
      exact ⟨rfl, HB.out⟩
    · have HB := Lib.hid (below_trans HB.out hb)
      clear hb HC3 hr3 hs3
      go_wp2_with fail
      go_ret
      exact ⟨rfl, HB.out⟩
  have HC3 := Lib.hid (HC3.out w3 hb)
  have HS2 := Lib.hid hs2
  have HT := Lib.hid (HT.out.belowS hb)
  have HR := Lib.hid (HR.out.below hb)
  have HB := Lib.hid (below_trans HB.out hb)
  have HR2 := Lib.hid hr2
  clear hb HC hr2 hs2
  go_wp2_with fail
  refine (HC3.out).mono ?_
  rintro e w4 ⟨hb, ⟨v3, rfl⟩ | ⟨h3, g3, v3, rfl, hr3, hs3⟩⟩
  · have HB := Lib.hid (below_trans HB.out hb)
    clear hb HC3 HR HR2 HS1 HS2 HT
    go_wp2_with fail
    go_ret
    exact ⟨rfl, HB.out⟩
  have HS3 := Lib.hid hs3
  have HT := Lib.hid (HT.out.belowS hb)
  have HR := Lib.hid (HR.out.below hb)
  have HR2 := Lib.hid (HR2.out.below hb)
  have HB := Lib.hid (below_trans HB.out hb)
  have HR3 := Lib.hid hr3
  clear hb HC3 hr3 hs3
  have HL2 := Lib.hid HR2.out.len
  have HW2 := Lib.hid HR2.out.2.2.2.wlt
  have HW3 := Lib.hid HR3.out.2.2.2.wlt
  have HC := Lib.hid (union_ex h2 g2 12 h3 g3 _ _ w4 HR2.out HR3.out (by omega))
  go_wp2_with fail
  refine (HC.out).mono ?_
  rintro e w5 ⟨hu, gu, rfl, hrx, hb⟩
  have HT := Lib.hid (HT.out.belowS hb)
  have HR := Lib.hid (HR.out.below hb)
  have HR2 := Lib.hid (HR2.out.below hb)
  have HR3 := Lib.hid (HR3.out.below hb)
  have HB := Lib.hid (below_trans HB.out hb)
  have HU := Lib.hid hrx
  clear HC hb hrx
  have HSU := Lib.hid (union_says (by omega) HL2.out HW2.out HW3.out HS2.out HS3.out)
  have HC := Lib.hid (then_ex h g 12 hu gu _ _ w5 HR.out HU.out (by omega) (says_wf HS1.out) HT.out)
  go_wp2_with fail
  refine (HC.out).mono ?_
  rintro e w6 ⟨hx, gx, rfl, hrx, hb⟩
  have HT := Lib.hid (HT.out.belowS hb)
  have HR := Lib.hid (HR.out.below hb)
  have HR2 := Lib.hid (HR2.out.below hb)
  have HR3 := Lib.hid (HR3.out.below hb)
  have HU := Lib.hid (HU.out.below hb)
  have HB := Lib.hid (below_trans HB.out hb)
  have HX := Lib.hid hrx
  clear HC hb hrx
  have HSX := Lib.hid (then_says (by omega) HS1.out HSU.out)
  have HC := Lib.hid (then_ex h g 12 h2 g2 _ _ w6 HR.out HR2.out (by omega) (says_wf HS1.out) HT.out)
  go_wp2_with fail
  refine (HC.out).mono ?_
  rintro e w7 ⟨hy, gy, rfl, hrx, hb⟩
  have HT := Lib.hid (HT.out.belowS hb)
  have HR := Lib.hid (HR.out.below hb)
  have HR2 := Lib.hid (HR2.out.below hb)
  have HR3 := Lib.hid (HR3.out.below hb)
  have HU := Lib.hid (HU.out.below hb)
  have HX := Lib.hid (HX.out.below hb)
  have HB := Lib.hid (below_trans HB.out hb)
  have HY := Lib.hid hrx
  clear HC hb hrx
  have HSY := Lib.hid (then_says (by omega) HS1.out HS2.out)
  have HC := Lib.hid (then_ex h g 12 h3 g3 _ _ w7 HR.out HR3.out (by omega) (says_wf HS1.out) HT.out)
  go_wp2_with fail
  refine (HC.out).mono ?_
  rintro e w8 ⟨hz, gz, rfl, hrx, hb⟩
  have HT := Lib.hid (HT.out.belowS hb)
  have HR := Lib.hid (HR.out.below hb)
  have HR2 := Lib.hid (HR2.out.below hb)
  have HR3 := Lib.hid (HR3.out.below hb)
  have HU := Lib.hid (HU.out.below hb)
  have HX := Lib.hid (HX.out.below hb)
  have HY := Lib.hid (HY.out.below hb)
  have HB := Lib.hid (below_trans HB.out hb)
  have HZ := Lib.hid hrx
  clear HC hb hrx
  have HSZ := Lib.hid (then_says (by omega) HS1.out HS3.out)
  clear HR HR2 HR3 HU HT
  have HLY := Lib.hid HY.out.len
  have HWY := Lib.hid HY.out.2.2.2.wlt
  have HWZ := Lib.hid HZ.out.2.2.2.wlt
  have HC := Lib.hid (union_ex hy gy 12 hz gz _ _ w8 HY.out HZ.out (by omega))
  go_wp2_with fail
  refine (HC.out).mono ?_
  rintro e w9 ⟨hv, gv, rfl, hrx, hb⟩
  have HX := Lib.hid (HX.out.below hb)
  have HY := Lib.hid (HY.out.below hb)
  have HZ := Lib.hid (HZ.out.below hb)
  have HB := Lib.hid (below_trans HB.out hb)
  have HV := Lib.hid hrx
  clear HC hb hrx
  have HSV := Lib.hid (union_says (by omega) HLY.out HWY.out HWZ.out HSY.out HSZ.out)
  have HSE := Lib.hid (rel_same HV.out HX.out (by omega) HSV.out (spread_says HSX.out))
  have HC0 := relsame_any hv gv 12 hx gx 12 _ _ w9 HV.out HX.out (by omega) (by omega)
  rw [HSE.out] at HC0
  have HC0 := Lib.hid HC0
  have HC := Lib.hid (HC0.out)
  go_wp2_with fail
  refine (HC.out).mono ?_
  rintro e w10 ⟨rfl, hb⟩
  have HX := Lib.hid (HX.out.below hb)
  have HY := Lib.hid (HY.out.below hb)
  have HZ := Lib.hid (HZ.out.below hb)
  have HV := Lib.hid (HV.out.below hb)
  have HB := Lib.hid (below_trans HB.out hb)
  clear HC hb HC0
  go_wp2_with fail
  go_ret
  exact ⟨rfl, HB.out⟩

/-- A world for the witness: the settled one, the table holding what its initialiser lays. -/
noncomputable def laidWorld (os : Os) : World :=
  { World.holding Tryd.prog os ⟨#[], #[], []⟩ with heap := (World.holding Tryd.prog os ⟨#[], #[], []⟩).heap.modify 0 fun
      | .cells _ t frozen => .cells (TABZ.map (Value.int .u8)).toArray t frozen
      | o => o }
theorem laid_met (os : Os) : laidMet Tryd.prog Rows.relSpreadsRow.laid ((laidWorld os).forCall (fun _ _ => 0) ⟨#[], #[.slice none 0 0, .slice none 0 0, .slice none 0 0], []⟩).memory :=
  laidMet_of_run' 8 (by kernel_rfl) (by kernel_rfl)
theorem reads (os : Os) {H : Type} (enc : TypeId × Value → H) : ∃ places, DataW.whole enc Tryd.prog ((laidWorld os).forCall (fun _ _ => 0) ⟨#[], #[.slice none 0 0, .slice none 0 0, .slice none 0 0], []⟩).memory Tryd.f5.params.toList Rows.relSpreadsSpec.vars false (#[.slice none 0 0, .slice none 0 0, .slice none 0 0] : Array Value).toList 8 = some ([.nil, .nil, .nil], [], places) :=
  ⟨[], by kernel_rfl⟩

set_option maxRecDepth 100000 in
theorem lifted (os : Os) (started : os.Started) (H : Type) (enc : TypeId × Value → H) (F : Stop.Interp) :
    ReturnsInHanded {} Tryd.checked os 5 .any ((OpenSpec.ofChange Rows.relSpreadsSpec).preRow enc Tryd.prog Tryd.f5 Rows.relSpreadsRow.domain false Rows.relSpreadsRow.laid) (((OpenSpec.ofChange Rows.relSpreadsSpec).at F).post enc Tryd.prog Tryd.f5 false true false false) := by
  obtain ⟨places, hx⟩ := reads os enc
  refine returnsInHanded_of_row (C := Tryd.checked) (s := OpenSpec.ofChange Rows.relSpreadsSpec) own started (by kernel_rfl) Tryd.func5
    (witness_row_at (enc := enc) (C := Tryd.checked) false (laidWorld os) #[.slice none 0 0, .slice none 0 0, .slice none 0 0] rfl (by kernel_rfl) (by kernel_rfl) (by kernel_rfl)
      (OpenSpec.preRow_of_cond 8 hx (by kernel_rfl) (fun k hk => by cases hk) (by kernel_rfl) (laid_met os))) ?_
  intro W base args ds gs before hval0 hW _ _ _ hL _ _
  have hT : TabW W := tabW_of hL
  have hval : ∀ (j : Nat) t v, Tryd.f5.params[j]? = some t → args[j]? = some v → Value.okWide Tryd.prog W .any base t v := hval0
  have hW' := hW
  obtain ⟨p, q, hA0, hV, rfl, hfz, hnd⟩ := hW
  have hA : DataW.TrodAll enc Tryd.prog W 0 (fun _ => true) true Tryd.f5.params.toList args.toList ds p := hA0
  rw [Tryd.params5] at hA hval
  obtain ⟨v0, vs0, d0, ds0, p0, q0, hargs, rfl, rfl, h0, r0⟩ := trodAll_cons hA
  obtain ⟨v1, vs1, d1, ds1, p1, q1, rfl, rfl, rfl, h1, r1⟩ := trodAll_cons r0
  obtain ⟨v2, vs2, d2, ds2, p2, q2, rfl, rfl, rfl, h2, r2⟩ := trodAll_cons r1
  obtain ⟨rfl, rfl, rfl⟩ := trodAll_nil r2
  obtain rfl : args = #[v0, v1, v2] := by cases args; simp_all
  obtain ⟨rfl, rfl⟩ := trodVars_none hV
  have k0 := h0
  have lt0 : ∀ x ∈ p0, x.block < W.heap.size := by obtain ⟨m, hm⟩ := k0; exact DataW.trod_lt m _ _ _ hm
  obtain ⟨pp0, cc0, ll0, rfl, za0, zb0, zc0⟩ := open_pairs (hval 0 22 v0 rfl rfl) h0
  have k1 := h1
  have lt1 : ∀ x ∈ p1, x.block < W.heap.size := by obtain ⟨m, hm⟩ := k1; exact DataW.trod_lt m _ _ _ hm
  obtain ⟨pp1, cc1, ll1, rfl, za1, zb1, zc1⟩ := open_pairs (hval 1 22 v1 rfl rfl) h1
  have k2 := h2
  have lt2 : ∀ x ∈ p2, x.block < W.heap.size := by obtain ⟨m, hm⟩ := k2; exact DataW.trod_lt m _ _ _ hm
  obtain ⟨pp2, cc2, ll2, rfl, za2, zb2, zc2⟩ := open_pairs (hval 2 22 v2 rfl rfl) h2
  clear hA0 hval0
  refine (walk pp0 cc0 ll0 pp1 cc1 ll1 pp2 cc2 ll2 W za0 zb0 zc0 za1 zb1 zc1 za2 zb2 zc2 hT).mono fun e W' ⟨he, bel⟩ => ?_
  subst he
  exact ⟨_, rfl, _, _, _, [], _, [], hW', trodAll_mk1 (shut_bool Tryd.underlying4 _), (trodAll_cons_mk (Below.trod laidOut (by kernel_rfl) (of_decide_eq_true (by kernel_rfl)) k0 bel lt0) (trodAll_cons_mk (Below.trod laidOut (by kernel_rfl) (of_decide_eq_true (by kernel_rfl)) k1 bel lt1) (trodAll_cons_mk (Below.trod laidOut (by kernel_rfl) (of_decide_eq_true (by kernel_rfl)) k2 bel lt2) trodAll_mk0))), rfl, bel.frame _, fun h => by cases h⟩

theorem said : Rows.RelSpreadsSaid :=
  OpenClaim.holds_of_cond 5 Tryd.f5 rfl rfl rfl rfl rfl rfl rfl ⟨rfl, rfl, rfl, rfl, rfl⟩ rfl rfl rfl rfl rfl (by kernel_rfl) Tryd.func5 (by kernel_rfl)
    (of_decide_eq_true (by kernel_rfl)) (by unfold Func.isWrapper; first | (rw [if_pos (by decide +kernel)]; kernel_rfl) | (rw [if_neg (by decide +kernel)]; exact ⟨rfl, rfl⟩))
    (fun os started H enc _ F => by rw [OpenClaim.pre_eq_preRow]; exact lifted os started H enc F)
/-- No parameter wants a stand-in; the program's own looks are off. -/
theorem plain (f : FuncId) (fn : Func) (hf : Tryd.pinned.checked.prog.funcNamed Rows.relSpreadsRow.func = some f) (hfn : Tryd.pinned.checked.prog.funcs[f]? = some fn) :
    false = Tryd.pinned.checked.prog.looks [] ∧ ∀ (j : Nat) t, fn.params[j]? = some t → Tryd.pinned.checked.prog.wantsStandIn t = false := by
  obtain rfl : f = 5 := Option.some.inj ((show Tryd.prog.funcNamed Rows.relSpreadsRow.func = some 5 by kernel_rfl).symm.trans hf) |>.symm
  obtain rfl : fn = Tryd.f5 := (Option.some.inj (Tryd.func5.symm.trans hfn)).symm
  refine ⟨by kernel_rfl, fun j t ht => ?_⟩
  rw [Tryd.params5] at ht
  have hm := Array.mem_of_getElem? ht
  simp at hm
  rcases hm with rfl
  all_goals exact (show Tryd.prog.wantsStandIn _ = false by kernel_rfl)
/-- The card. -/
theorem proved : Rows.RelSpreadsCardSaid :=
  Claim7.holds_tied_plain_at .later [] _ _ _ _ said (fun _ h => by cases h) (by kernel_rfl) (fun _ h => by cases h) relSpreads_row_tie rfl ⟨rfl, rfl⟩ (by kernel_rfl) rfl plain (by kernel_rfl)
#print axioms proved
end Go.Proofs.YtmiajpoclgdhbaaDoor.relSpreads
