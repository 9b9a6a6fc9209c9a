/- A relation that does not go round has an order, the least at each place; another one none: as the document says, for every input. -/
import Derived.Test.YtmiajpoclgdhbaaDoorCards
import Derived.Test.YtmiajpoclgdhbaaDoorTie
import Derived.Test.YtmiajpoclgdhbaaDoorRows
import Derived.WalkKit
import Derived.ProofKit
import Derived.OpenShut
import Derived.Deep.DeepHandedRow
import Derived.Lib.LaidTab
import Derived.Test.YtmiajpoclgdhbaaDoorBase
import Derived.ShutString
import Derived.ChangeOld
import Derived.Lib.SmallJoins
import Derived.Test.YtmiajpoclgdhbaaDoorRelLaid
import Derived.Test.YtmiajpoclgdhbaaDoorRelAcyc
import Derived.Test.YtmiajpoclgdhbaaDoorRelBoth
namespace Go.Proofs.YtmiajpoclgdhbaaDoor.relOrder
open Go.ChangeShapes Go.WideShapes Go.ChangeAt Go.RowKit
set_option linter.unusedVariables false
set_option linter.unusedSimpArgs false

theorem own : ownKnob Tryd.prog.godebug = none := by kernel_rfl
theorem laidOut : laidOutB Tryd.prog = true := by kernel_rfl

theorem ints_at {w : World} {p : Option Addr} {l : List Nat} (h : Rds w 1 p l.length (l.map fun b => .int .i64 (b : Nat))) {i : Nat} (hi : i < l.length) :
    ∃ g off, p = some ⟨g, off, none⟩ ∧ w.cell? ⟨g, off + i, none⟩ = some (.int .i64 (l.getD i 0 : Nat)) := by
  obtain ⟨g, off, u, hp, hu, hc⟩ := h.at_ (j := i) (by omega)
  refine ⟨g, off, hp, hc.trans ?_⟩
  rw [← hu]
  simp [List.getD_eq_getElem?_getD, hi]
set_option maxRecDepth 100000 in
set_option maxHeartbeats 4000000 in
theorem walk (n : Int) (p : Option Addr) (c : Nat) (l : List (Int × Int)) (w : World) (_ : (Lit.int .i64 n).wf = true) (hl : l.length ≤ 9223372036854775807) (hc : l.length ≤ c) (hp : Rds w 2 p l.length (pairCells l)) (hT : TabW w) :
    Calls Tryd.prog 4 #[.int .i64 n, .slice p l.length c] w fun e w' => e = .returned (.bool true) ∧ Below w.heap.size w w' := by
  have HP := Lib.hid hp
  have HT := Lib.hid hT
  have HB := Lib.hid (Below.refl w.heap.size w)
  clear hp hT
  go_enter Tryd.func4, Tryd.ntmps4
  have HC := Lib.hid (awake_any w HT.out)
  go_wp2_with fail
  refine (HC.out).mono ?_
  rintro e w1 ⟨rfl, hb⟩
  have HP := Lib.hid (HP.out.below hb)
  have HT := Lib.hid (HT.out.belowS hb)
  have HB := Lib.hid (below_trans HB.out hb)
  clear HC hb 
  have HC := Lib.hid (both_any n l p c w1 hl HP.out hc)
  go_wp2_with fail
  refine (HC.out).mono ?_
  rintro e w2 ⟨hb, ⟨hbad, rfl⟩ | ⟨hok, N, t, h, g, rfl, hN, _, _, _, rfl, hta, hr⟩⟩
  · have HB := Lib.hid (below_trans HB.out hb)
    clear hb hbad HT HP HC
    go_wp2_with fail
    go_ret
    exact ⟨rfl, HB.out⟩
  clear HC
  have HP := Lib.hid (HP.out.below hb)
  have HT := Lib.hid (HT.out.belowS hb)
  have HB := Lib.hid (below_trans HB.out hb)
  clear hb HP
  have HS1 := Lib.hid (both_says hok (by omega))
  have HR := Lib.hid hr
  have HTA := Lib.hid hta
  clear hok hr hta
  obtain ⟨R, hR⟩ : ∃ R, IsClos N (inL l) R := ⟨_, war_clos N (inL l)⟩
  have HRC := Lib.hid hR
  clear hR
  have HC := relorder_any h g N _ w2 HR.out (by omega) (says_wf HS1.out) HT.out
  unfold OrderPost at HC
  rw [order_eq (by omega) HS1.out] at HC
  have HLS := Lib.hid (loose_says HS1.out)
  cases hz : looseT N R
  · obtain ⟨x, hx, hxx⟩ := looseT_not hz
    have hto := torder_none HRC.out hx hxx
    clear hxx
    rw [hto] at HC
    have HC := Lib.hid HC
    go_wp2_with fail
    refine (HC.out).mono ?_
    rintro e w3 ⟨hb, he⟩
    try simp only at he
    subst he
    have HT := Lib.hid (HT.out.belowS hb)
    have HR := Lib.hid (HR.out.below hb)
    have HTA := Lib.hid (HTA.out.keep hb)
    have HB := Lib.hid (below_trans HB.out hb)
    clear hb HC
    have HC := Lib.hid (tacyc_any t N _ w3 HTA.out (by omega))
    go_wp2_with fail
    refine (HC.out).mono ?_
    rintro e w4 ⟨U, hU, rfl, hb⟩
    have hzz := (loose_congr (fun a b ha hb => hU.unique HRC.out a b ha hb)).trans hz
    rw [hzz]
    clear hzz hU
    have HT := Lib.hid (HT.out.belowS hb)
    have HR := Lib.hid (HR.out.below hb)
    have HTA := Lib.hid (HTA.out.keep hb)
    have HB := Lib.hid (below_trans HB.out hb)
    clear HC hb 
    have HC0 := relacyc_any h g N _ _ R w4 HR.out (by omega) HS1.out HRC.out HT.out
    rw [hz] at HC0
    have HC0 := Lib.hid HC0
    have HC := Lib.hid (HC0.out)
    go_wp2_with fail
    refine (HC.out).mono ?_
    rintro e w5 ⟨rfl, hb⟩
    have HT := Lib.hid (HT.out.belowS hb)
    have HR := Lib.hid (HR.out.below hb)
    have HTA := Lib.hid (HTA.out.keep hb)
    have HB := Lib.hid (below_trans HB.out hb)
    clear HC hb HC0
    have HI := relirr_any h g N _ w5 HR.out (by omega)
    rw [HLS.out] at HI
    have HI := Lib.hid HI
    have HLO := Lib.hid (loose_any t N _ w5 HTA.out (by omega))
    generalize looseT N (inL l) = lz at *
    go_wp2_with fail
    refine (HI.out).mono ?_
    rintro e w6 ⟨rfl, rfl⟩
    go_wp2_with fail
    refine (HLO.out).mono ?_
    rintro e w7 ⟨rfl, rfl⟩
    clear HI HLO
    cases lz
    all_goals
      go_wp2_with fail
      go_ret
      exact ⟨rfl, HB.out⟩
  · obtain ⟨lo, hlo, hll⟩ := torder_some HRC.out (looseT_iff.1 hz)
    have HTO := Lib.hid hlo
    have hto := hlo
    clear hlo
    rw [hto] at HC
    have HC := Lib.hid HC
    go_wp2_with fail
    refine (HC.out).mono ?_
    rintro e w3 ⟨hb, he⟩
    try simp only at he
    obtain ⟨v, rfl, ho⟩ := he
    obtain ⟨p3, c3, rfl, _⟩ := own_form ho
    obtain ⟨hrd, hc3, _⟩ := Rds.own ho
    have HRD := Lib.hid hrd
    clear hrd ho
    have HT := Lib.hid (HT.out.belowS hb)
    have HR := Lib.hid (HR.out.below hb)
    have HTA := Lib.hid (HTA.out.keep hb)
    have HB := Lib.hid (below_trans HB.out hb)
    clear hb HC
    have HC := Lib.hid (tacyc_any t N _ w3 HTA.out (by omega))
    go_wp2_with fail
    refine (HC.out).mono ?_
    rintro e w4 ⟨U, hU, rfl, hb⟩
    have hzz := (loose_congr (fun a b ha hb => hU.unique HRC.out a b ha hb)).trans hz
    rw [hzz]
    clear hzz hU
    have HT := Lib.hid (HT.out.belowS hb)
    have HR := Lib.hid (HR.out.below hb)
    have HTA := Lib.hid (HTA.out.keep hb)
    have HRD := Lib.hid (HRD.out.below hb)
    have HB := Lib.hid (below_trans HB.out hb)
    clear HC hb 
    have HC0 := relacyc_any h g N _ _ R w4 HR.out (by omega) HS1.out HRC.out HT.out
    rw [hz] at HC0
    have HC0 := Lib.hid HC0
    have HC := Lib.hid (HC0.out)
    go_wp2_with fail
    refine (HC.out).mono ?_
    rintro e w5 ⟨rfl, hb⟩
    have HT := Lib.hid (HT.out.belowS hb)
    have HR := Lib.hid (HR.out.below hb)
    have HTA := Lib.hid (HTA.out.keep hb)
    have HRD := Lib.hid (HRD.out.below hb)
    have HB := Lib.hid (below_trans HB.out hb)
    clear HC hb HC0
    have HI := relirr_any h g N _ w5 HR.out (by omega)
    rw [HLS.out] at HI
    have HI := Lib.hid HI
    have HLO := Lib.hid (loose_any t N _ w5 HTA.out (by omega))
    generalize looseT N (inL l) = lz at *
    go_wp2_with fail
    refine (HI.out).mono ?_
    rintro e w6 ⟨rfl, rfl⟩
    go_wp2_with fail
    refine (HLO.out).mono ?_
    rintro e w7 ⟨rfl, rfl⟩
    clear HI HLO
    have HC := torder_any t N _ _ HTA.out (by omega)
    unfold TOrderPost at HC
    rw [HTO.out] at HC
    have HC := Lib.hid HC
    cases lz
    all_goals
      go_wp2_with fail
      refine (HC.out).mono ?_
      rintro e w8 ⟨hb, he⟩
      try simp only at he
      obtain ⟨v, rfl, ho⟩ := he
      obtain ⟨p4, c4, rfl, _⟩ := own_form ho
      obtain ⟨hrd, hc4, _⟩ := Rds.own ho
      have HRD2 := Lib.hid hrd
      have HRD1 := Lib.hid (HRD.out.below hb)
      have HB8 := Lib.hid (below_trans HB.out hb)
      clear hrd ho hb HC
      go_wp2_with fail
      go_loopw [11] (fun i wr => ∃ k : Nat, k ≤ lo.length ∧ i = .int .i64 k ∧ Below w.heap.size w wr ∧ Below w8.heap.size w8 wr) (fun i _ => lo.length - (intOf i).toNat)
      case atStart => exact ⟨0, by omega, rfl, HB8.out, Below.refl _ _⟩
      case round =>
        obtain ⟨k, hk, rfl, hB, hB2⟩ := hrel
        obtain ⟨wo, rfl⟩ : ∃ wo : World, wo = wr := ⟨_, rfl⟩
        by_cases hkl : k < lo.length
        · have hk0 : (0 : Int) ≤ k := by omega
          have hki : (k : Int) < lo.length := by omega
          obtain ⟨g5, o5, hp5, f5⟩ := ints_at (HRD1.out.below hB2) hkl
          obtain ⟨g6, o6, hp6, f6⟩ := ints_at (HRD2.out.below hB2) hkl
          subst hp5 hp6
          have HBB := Lib.hid hB
          have HBB2 := Lib.hid hB2
          clear hB hB2
          generalize lo.getD k 0 = y at *
          go_wp2_with fail
          go_quiet (fail)
          go_wp2_with fail
          go_roundw
          case rel => exact ⟨k + 1, by omega, by go_num, below_drewN HBB.out _, below_drewN HBB2.out _⟩
          case measure => simp [intOf]; omega
        · obtain rfl : k = lo.length := by omega
          have HBB := Lib.hid hB
          clear hB hB2
          go_wp2_with fail
          go_ret
          exact ⟨rfl, HBB.out⟩

/-- A world for the witness: the settled one, the table holding what its initialiser lays. -/
noncomputable def laidWorld (os : Os) : World :=
  { World.holding Tryd.prog os ⟨#[], #[], []⟩ with heap := (World.holding Tryd.prog os ⟨#[], #[], []⟩).heap.modify 0 fun
      | .cells _ t frozen => .cells (TABZ.map (Value.int .u8)).toArray t frozen
      | o => o }
theorem laid_met (os : Os) : laidMet Tryd.prog Rows.relOrderRow.laid ((laidWorld os).forCall (fun _ _ => 0) ⟨#[], #[.int .i64 0, .slice none 0 0], []⟩).memory :=
  laidMet_of_run' 8 (by kernel_rfl) (by kernel_rfl)
theorem reads (os : Os) {H : Type} (enc : TypeId × Value → H) : ∃ places, DataW.whole enc Tryd.prog ((laidWorld os).forCall (fun _ _ => 0) ⟨#[], #[.int .i64 0, .slice none 0 0], []⟩).memory Tryd.f4.params.toList Rows.relOrderSpec.vars false (#[.int .i64 0, .slice none 0 0] : Array Value).toList 8 = some ([.lit (.int .i64 0), .nil], [], places) :=
  ⟨[], by kernel_rfl⟩

set_option maxRecDepth 100000 in
theorem lifted (os : Os) (started : os.Started) (H : Type) (enc : TypeId × Value → H) (F : Stop.Interp) :
    ReturnsInHanded {} Tryd.checked os 4 .any ((OpenSpec.ofChange Rows.relOrderSpec).preRow enc Tryd.prog Tryd.f4 Rows.relOrderRow.domain false Rows.relOrderRow.laid) (((OpenSpec.ofChange Rows.relOrderSpec).at F).post enc Tryd.prog Tryd.f4 false true false false) := by
  obtain ⟨places, hx⟩ := reads os enc
  refine returnsInHanded_of_row (C := Tryd.checked) (s := OpenSpec.ofChange Rows.relOrderSpec) own started (by kernel_rfl) Tryd.func4
    (witness_row_at (enc := enc) (C := Tryd.checked) false (laidWorld os) #[.int .i64 0, .slice none 0 0] rfl (by kernel_rfl) (by kernel_rfl) (by kernel_rfl)
      (OpenSpec.preRow_of_cond 8 hx (by kernel_rfl) (fun k hk => by cases hk) (by kernel_rfl) (laid_met os))) ?_
  intro W base args ds gs before hval0 hW _ _ _ hL _ _
  have hT : TabW W := tabW_of hL
  have hval : ∀ (j : Nat) t v, Tryd.f4.params[j]? = some t → args[j]? = some v → Value.okWide Tryd.prog W .any base t v := hval0
  have hW' := hW
  obtain ⟨p, q, hA0, hV, rfl, hfz, hnd⟩ := hW
  have hA : DataW.TrodAll enc Tryd.prog W 0 (fun _ => true) true Tryd.f4.params.toList args.toList ds p := hA0
  rw [Tryd.params4] at hA hval
  obtain ⟨v0, vs0, d0, ds0, p0, q0, hargs, rfl, rfl, h0, r0⟩ := trodAll_cons hA
  obtain ⟨v1, vs1, d1, ds1, p1, q1, rfl, rfl, rfl, h1, r1⟩ := trodAll_cons r0
  obtain ⟨rfl, rfl, rfl⟩ := trodAll_nil r1
  obtain rfl : args = #[v0, v1] := by cases args; simp_all
  obtain ⟨rfl, rfl⟩ := trodVars_none hV
  obtain ⟨a0, rfl, rfl, rfl, w0⟩ := open_int Tryd.underlying3 (hval 0 3 v0 rfl rfl) h0
  have k1 := h1
  have lt1 : ∀ x ∈ p1, x.block < W.heap.size := by obtain ⟨m, hm⟩ := k1; exact DataW.trod_lt m _ _ _ hm
  obtain ⟨pp1, cc1, ll1, rfl, za1, zb1, zc1⟩ := open_pairs (hval 1 22 v1 rfl rfl) h1
  clear hA0 hval0
  refine (walk a0 pp1 cc1 ll1 W w0 za1 zb1 zc1 hT).mono fun e W' ⟨he, bel⟩ => ?_
  subst he
  exact ⟨_, rfl, _, _, _, [], _, [], hW', trodAll_mk1 (shut_bool Tryd.underlying4 _), (trodAll_cons_mk (shut_int Tryd.underlying3 w0) (trodAll_cons_mk (Below.trod laidOut (by kernel_rfl) (of_decide_eq_true (by kernel_rfl)) k1 bel lt1) trodAll_mk0)), rfl, bel.frame _, fun h => by cases h⟩

theorem said : Rows.RelOrderSaid :=
  OpenClaim.holds_of_cond 4 Tryd.f4 rfl rfl rfl rfl rfl rfl rfl ⟨rfl, rfl, rfl, rfl, rfl⟩ rfl rfl rfl rfl rfl (by kernel_rfl) Tryd.func4 (by kernel_rfl)
    (of_decide_eq_true (by kernel_rfl)) (by unfold Func.isWrapper; first | (rw [if_pos (by decide +kernel)]; kernel_rfl) | (rw [if_neg (by decide +kernel)]; exact ⟨rfl, rfl⟩))
    (fun os started H enc _ F => by rw [OpenClaim.pre_eq_preRow]; exact lifted os started H enc F)
/-- No parameter wants a stand-in; the program's own looks are off. -/
theorem plain (f : FuncId) (fn : Func) (hf : Tryd.pinned.checked.prog.funcNamed Rows.relOrderRow.func = some f) (hfn : Tryd.pinned.checked.prog.funcs[f]? = some fn) :
    false = Tryd.pinned.checked.prog.looks [] ∧ ∀ (j : Nat) t, fn.params[j]? = some t → Tryd.pinned.checked.prog.wantsStandIn t = false := by
  obtain rfl : f = 4 := Option.some.inj ((show Tryd.prog.funcNamed Rows.relOrderRow.func = some 4 by kernel_rfl).symm.trans hf) |>.symm
  obtain rfl : fn = Tryd.f4 := (Option.some.inj (Tryd.func4.symm.trans hfn)).symm
  refine ⟨by kernel_rfl, fun j t ht => ?_⟩
  rw [Tryd.params4] at ht
  have hm := Array.mem_of_getElem? ht
  simp at hm
  rcases hm with rfl | rfl
  all_goals exact (show Tryd.prog.wantsStandIn _ = false by kernel_rfl)
/-- The card. -/
theorem proved : Rows.RelOrderCardSaid :=
  Claim7.holds_tied_plain_at .later [] _ _ _ _ said (fun _ h => by cases h) (by kernel_rfl) (fun _ h => by cases h) relOrder_row_tie rfl ⟨rfl, rfl⟩ (by kernel_rfl) rfl plain (by kernel_rfl)
#print axioms proved
end Go.Proofs.YtmiajpoclgdhbaaDoor.relOrder
