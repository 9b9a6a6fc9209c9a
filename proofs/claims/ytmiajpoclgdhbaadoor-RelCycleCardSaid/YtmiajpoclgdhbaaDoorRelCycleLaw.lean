/- Just where there is no order there are things that lead round, each to the next one, for every input. -/
import Derived.Test.YtmiajpoclgdhbaaDoorCards
import Derived.Test.YtmiajpoclgdhbaaDoorTie
import Derived.Test.YtmiajpoclgdhbaaDoorRows
import Derived.WalkKit
import Derived.ProofKit
import Derived.OpenShut
import Derived.Deep.DeepHandedRow
import Derived.Lib.LaidTab
import Derived.Test.YtmiajpoclgdhbaaDoorBase
import Derived.ShutString
import Derived.ChangeOld
import Derived.Lib.SmallJoins
import Derived.Test.YtmiajpoclgdhbaaDoorRelLaid
import Derived.Test.YtmiajpoclgdhbaaDoorRelCycleW
import Derived.Test.YtmiajpoclgdhbaaDoorRelBoth
import Derived.Deep.RegionHeld
namespace Go.Proofs.YtmiajpoclgdhbaaDoor.relCycle
open Go.ChangeShapes Go.WideShapes Go.ChangeAt Go.RowKit
set_option linter.unusedVariables false
set_option linter.unusedSimpArgs false

theorem own : ownKnob Tryd.prog.godebug = none := by kernel_rfl
theorem laidOut : laidOutB Tryd.prog = true := by kernel_rfl

theorem ints_at {w : World} {p : Option Addr} {l : List Nat} {m : Nat} (h : Rds w 1 p m (l.map fun b => .int .i64 (b : Nat))) {i : Nat} (hi : i < m) :
    ∃ g off, p = some ⟨g, off, none⟩ ∧ w.cell? ⟨g, off + i, none⟩ = some (.int .i64 (l.getD i 0 : Nat)) := by
  obtain ⟨g, off, u, hp, hu, hc⟩ := h.at_ (j := i) (by omega)
  refine ⟨g, off, hp, hc.trans ?_⟩
  rw [← hu]
  have : i < l.length := by have := h.1; simp at this; omega
  simp [List.getD_eq_getElem?_getD, this]
theorem getD_ne {l : List Nat} (h : l.Nodup) {i j : Nat} (hi : i < l.length) (hj : j < l.length) (hne : i < j) : l.getD i 0 ≠ l.getD j 0 := by
  intro e
  rw [List.getD_eq_getElem?_getD, List.getD_eq_getElem?_getD, List.getElem?_eq_getElem hi, List.getElem?_eq_getElem hj] at e
  exact List.pairwise_iff_getElem.1 h i j hi hj hne e
set_option maxRecDepth 100000 in
set_option maxHeartbeats 4000000 in
theorem walk (n : Int) (p : Option Addr) (c : Nat) (l : List (Int × Int)) (w : World) (_ : (Lit.int .i64 n).wf = true) (hl : l.length ≤ 9223372036854775807) (hc : l.length ≤ c) (hp : Rds w 2 p l.length (pairCells l)) (hT : TabW w) :
    Calls Tryd.prog 10 #[.int .i64 n, .slice p l.length c] w fun e w' => e = .returned (.bool true) ∧ Below w.heap.size w w' := by
  have HP := Lib.hid hp
  have HT := Lib.hid hT
  have HB := Lib.hid (Below.refl w.heap.size w)
  clear hp hT
  go_enter Tryd.func10, Tryd.ntmps10
  have HC := Lib.hid (awake_any w HT.out)
  go_wp2_with fail
  refine (HC.out).mono ?_
  rintro e w1 ⟨rfl, hb⟩
  have HP := Lib.hid (HP.out.below hb)
  have HT := Lib.hid (HT.out.belowS hb)
  have HB := Lib.hid (below_trans HB.out hb)
  clear HC hb 
  have HC := Lib.hid (both_any n l p c w1 hl HP.out hc)
  go_wp2_with fail
  refine (HC.out).mono ?_
  rintro e w2 ⟨hb, ⟨hbad, rfl⟩ | ⟨hok, N, t, h, g, rfl, hN, _, _, _, rfl, hta, hr⟩⟩
  · have HB := Lib.hid (below_trans HB.out hb)
    clear hb hbad HT HP HC
    go_wp2_with fail
    go_ret
    exact ⟨rfl, HB.out⟩
  clear HC
  have HP := Lib.hid (HP.out.below hb)
  have HT := Lib.hid (HT.out.belowS hb)
  have HB := Lib.hid (below_trans HB.out hb)
  clear hb HP
  have HS1 := Lib.hid (both_says hok (by omega))
  have HR := Lib.hid hr
  have HTA := Lib.hid hta
  clear hok hr hta
  obtain ⟨R, hR⟩ : ∃ R, IsClos N (inL l) R := ⟨_, war_clos N (inL l)⟩
  have HRC := Lib.hid hR
  clear hR
  have HC := Lib.hid (cycle_any h g N _ _ R w2 HR.out (by omega) HS1.out HRC.out HT.out)
  go_wp2_with fail
  refine (HC.out).mono ?_
  rintro e w3 ⟨hb, ⟨hz, rfl⟩ | ⟨hz, pc, cc, lc, rfl, hlc, hrd, hrnd⟩⟩
  · skip
    have HT := Lib.hid (HT.out.belowS hb)
    have HR := Lib.hid (HR.out.below hb)
    have HTA := Lib.hid (HTA.out.keep hb)
    have HB := Lib.hid (below_trans HB.out hb)
    clear hb HC
    have HC0 := relacyc_any h g N _ _ R w3 HR.out (by omega) HS1.out HRC.out HT.out
    rw [hz] at HC0
    have HC0 := Lib.hid HC0
    clear hz
    have HC := Lib.hid (HC0.out)
    go_wp2_with fail
    refine (HC.out).mono ?_
    rintro e w4 ⟨rfl, hb⟩
    have HT := Lib.hid (HT.out.belowS hb)
    have HR := Lib.hid (HR.out.below hb)
    have HTA := Lib.hid (HTA.out.keep hb)
    have HB := Lib.hid (below_trans HB.out hb)
    clear HC hb HC0
    go_wp2_with fail
    go_loop [8] (fun i => i = .int .i64 0) (fun i => 0)
    case atStart => rfl
    case round =>
      subst hrel
      go_wp2_with fail
      go_ret
      exact ⟨rfl, HB.out⟩
  · have HRND := Lib.hid hrnd
    have hl0 := hrnd.ne
    have hlN := nodup_le hrnd.nd hrnd.lt
    obtain ⟨m, hmm⟩ : ∃ m, lc.length = m := ⟨_, rfl⟩
    rw [hmm] at hrd hl0 hlN hlc ⊢
    have HRD := Lib.hid hrd
    have HM := Lib.hid hmm
    clear hrd hrnd hmm
    have HT := Lib.hid (HT.out.belowS hb)
    have HR := Lib.hid (HR.out.below hb)
    have HTA := Lib.hid (HTA.out.keep hb)
    have HB := Lib.hid (below_trans HB.out hb)
    clear hb HC
    have HC0 := relacyc_any h g N _ _ R w3 HR.out (by omega) HS1.out HRC.out HT.out
    rw [hz] at HC0
    have HC0 := Lib.hid HC0
    clear hz
    have hln : ¬ (m : Int) = 0 := by omega
    have hlb : ((m : Int) == 0) = false := by rw [beq_eq_false_iff_ne]; omega
    have HC := Lib.hid (HC0.out)
    go_wp2_with fail
    refine (HC.out).mono ?_
    rintro e w4 ⟨rfl, hb⟩
    have HT := Lib.hid (HT.out.belowS hb)
    have HR := Lib.hid (HR.out.below hb)
    have HTA := Lib.hid (HTA.out.keep hb)
    have HRD := Lib.hid (HRD.out.below hb)
    have HB := Lib.hid (below_trans HB.out hb)
    clear HC hb HC0
    go_wp2_with fail
    go_loopw [8] (fun i wr => ∃ k : Nat, k ≤ m ∧ i = .int .i64 k ∧ Below w.heap.size w wr ∧ Below w4.heap.size w4 wr) (fun i _ => m - (intOf i).toNat)
    case atStart => exact ⟨0, by omega, rfl, HB.out, Below.refl _ _⟩
    case round =>
      obtain ⟨k, hk, rfl, hB, hB2⟩ := hrel
      obtain ⟨wo, rfl⟩ : ∃ wo : World, wo = wr := ⟨_, rfl⟩
      by_cases hkl : k < m
      · have hk0 : (0 : Int) ≤ k := by omega
        have hki : (k : Int) < m := by omega
        have hm : (k + 1) % m < m := Nat.mod_lt _ (by omega)
        obtain ⟨g5, o5, hp5, f5⟩ := ints_at (HRD.out.below hB2) hkl
        obtain ⟨g6, o6, hp6, f6⟩ := ints_at (HRD.out.below hB2) hm
        subst hp5
        injection hp6 with hp6
        injection hp6 with e1 e2
        subst e1 e2
        have HLK := Lib.hid (show inL l (lc.getD k 0) (lc.getD ((k + 1) % m) 0) = true from by have h0 := HRND.out.link k (by rw [HM.out]; exact hkl); rw [HM.out] at h0; exact h0)
        have HLT1 := Lib.hid (HRND.out.lt (lc.getD k 0) (by rw [List.getD_eq_getElem?_getD, List.getElem?_eq_getElem (by rw [HM.out]; exact hkl)]; exact List.getElem_mem _))
        have HLT2 := Lib.hid (HRND.out.lt (lc.getD ((k + 1) % m) 0) (by rw [List.getD_eq_getElem?_getD, List.getElem?_eq_getElem (by rw [HM.out]; exact hm)]; exact List.getElem_mem _))
        have HNE := Lib.hid (fun j (hj : j < k) => getD_ne HRND.out.nd (i := j) (j := k) (by rw [HM.out]; omega) (by rw [HM.out]; exact hkl) (by omega))
        have hw1 : IntKind.i64.wrap ((k : Int) + 1) = (k : Int) + 1 := IntWalk.i64_in _ (by omega)
        have hmod : ((k : Int) + 1).tmod (m : Int) = (((k + 1) % m : Nat) : Int) := by rw [Int.tmod_eq_emod_of_nonneg (by omega)]; show ((k + 1 : Nat) : Int) % (m : Int) = _; rfl
        have hw2 : IntKind.i64.wrap (((k + 1) % m : Nat) : Int) = (((k + 1) % m : Nat) : Int) := IntWalk.i64_in _ (by omega)
        have hmi : ((((k + 1) % m : Nat) : Int)) < m := by omega
        have hm0 : (0 : Int) ≤ (((k + 1) % m : Nat) : Int) := by omega
        have HH := relhas_any h g N _ (lc.getD k 0 : Nat) (lc.getD ((k + 1) % m) 0 : Nat) (wo.drewN 1) ((HR.out.below hB2).dn 1) (by omega)
        rw [hasZ_yes _ _ _ _ HLT1.out HLT2.out, HS1.out.1 _ HLT1.out _ HLT2.out, HLK.out] at HH
        have HH := Lib.hid HH
        have HB := Lib.hid hB
        have HB2 := Lib.hid hB2
        clear hB hB2
        have f5d : (wo.drewN 1).cell? ⟨g5, o5 + k, none⟩ = some (.int .i64 (lc.getD k 0 : Nat)) := f5
        have f6d : (wo.drewN 1).cell? ⟨g5, o5 + (k + 1) % m, none⟩ = some (.int .i64 (lc.getD ((k + 1) % m) 0 : Nat)) := f6
        generalize (k + 1) % m = k1 at *
        go_wp2_with fail
        go_region_held (fun w' => w'.cell? ⟨g5, o5 + k, none⟩ = some (.int .i64 (lc.getD k 0 : Nat)) ∧ w'.cell? ⟨g5, o5 + k1, none⟩ = some (.int .i64 (lc.getD k1 0 : Nat)))
          (exact ⟨f5d, f6d⟩)
          (first | (go_at_call 32; refine (HH.out).mono ?_; rintro e w' ⟨rfl, rfl⟩))
        go_wp2_with fail
        go_loopw [9] (fun i wr => ∃ j : Nat, j ≤ k ∧ i = .int .i64 j ∧ Below w.heap.size w wr ∧ Below w4.heap.size w4 wr) (fun i _ => k - (intOf i).toNat)
        case atStart => exact ⟨0, by omega, rfl, below_drewN HB.out 1, below_drewN HB2.out 1⟩
        case round =>
          clear HB HB2 f5d f6d HH
          obtain ⟨j, hj, rfl, hB, hB2⟩ := hrel
          obtain ⟨wi, rfl⟩ : ∃ wi : World, wi = wr := ⟨_, rfl⟩
          by_cases hjl : j < k
          · have hj0 : (0 : Int) ≤ j := by omega
            have hjk : (j : Int) < k := by omega
            have hjn : (j : Int) < m := by omega
            obtain ⟨g7, o7, hp7, f7⟩ := ints_at (HRD.out.below hB2) (show j < m by omega)
            obtain ⟨g8, o8, hp8, f8⟩ := ints_at (HRD.out.below hB2) hkl
            injection hp7 with hp7
            injection hp7 with e1 e2
            subst e1 e2
            injection hp8 with hp8
            injection hp8 with e1 e2
            subst e1 e2
            have hne := HNE.out j hjl
            have hB := Lib.hid hB
            have hB2 := Lib.hid hB2
            generalize lc.getD j 0 = y1 at *
            generalize lc.getD k 0 = y2 at *
            have hnei : ((y1 : Int) == (y2 : Int)) = false := by rw [beq_eq_false_iff_ne]; omega
            have hnej : ¬ (y1 : Int) = (y2 : Int) := by omega
            go_wp2_with fail
            go_quiet (fail)
            go_wp2_with fail
            go_roundw
            case rel => exact ⟨j + 1, by omega, by go_num, below_drewN hB.out _, below_drewN hB2.out _⟩
            case measure => simp [intOf]; omega
          · obtain rfl : j = k := by omega
            have hB := Lib.hid hB
            have hB2 := Lib.hid hB2
            go_wp2_with fail
            go_roundw
            case rel => exact ⟨j + 1, by omega, by go_num, hB.out, hB2.out⟩
            case measure => simp [intOf]; omega
      · obtain rfl : k = m := by omega
        have HB := Lib.hid hB
        clear hB hB2
        go_wp2_with fail
        go_ret
        exact ⟨rfl, HB.out⟩

/-- A world for the witness: the settled one, the table holding what its initialiser lays. -/
noncomputable def laidWorld (os : Os) : World :=
  { World.holding Tryd.prog os ⟨#[], #[], []⟩ with heap := (World.holding Tryd.prog os ⟨#[], #[], []⟩).heap.modify 0 fun
      | .cells _ t frozen => .cells (TABZ.map (Value.int .u8)).toArray t frozen
      | o => o }
theorem laid_met (os : Os) : laidMet Tryd.prog Rows.relCycleRow.laid ((laidWorld os).forCall (fun _ _ => 0) ⟨#[], #[.int .i64 0, .slice none 0 0], []⟩).memory :=
  laidMet_of_run' 8 (by kernel_rfl) (by kernel_rfl)
theorem reads (os : Os) {H : Type} (enc : TypeId × Value → H) : ∃ places, DataW.whole enc Tryd.prog ((laidWorld os).forCall (fun _ _ => 0) ⟨#[], #[.int .i64 0, .slice none 0 0], []⟩).memory Tryd.f10.params.toList Rows.relCycleSpec.vars false (#[.int .i64 0, .slice none 0 0] : Array Value).toList 8 = some ([.lit (.int .i64 0), .nil], [], places) :=
  ⟨[], by kernel_rfl⟩

set_option maxRecDepth 100000 in
theorem lifted (os : Os) (started : os.Started) (H : Type) (enc : TypeId × Value → H) (F : Stop.Interp) :
    ReturnsInHanded {} Tryd.checked os 10 .any ((OpenSpec.ofChange Rows.relCycleSpec).preRow enc Tryd.prog Tryd.f10 Rows.relCycleRow.domain false Rows.relCycleRow.laid) (((OpenSpec.ofChange Rows.relCycleSpec).at F).post enc Tryd.prog Tryd.f10 false true false false) := by
  obtain ⟨places, hx⟩ := reads os enc
  refine returnsInHanded_of_row (C := Tryd.checked) (s := OpenSpec.ofChange Rows.relCycleSpec) own started (by kernel_rfl) Tryd.func10
    (witness_row_at (enc := enc) (C := Tryd.checked) false (laidWorld os) #[.int .i64 0, .slice none 0 0] rfl (by kernel_rfl) (by kernel_rfl) (by kernel_rfl)
      (OpenSpec.preRow_of_cond 8 hx (by kernel_rfl) (fun k hk => by cases hk) (by kernel_rfl) (laid_met os))) ?_
  intro W base args ds gs before hval0 hW _ _ _ hL _ _
  have hT : TabW W := tabW_of hL
  have hval : ∀ (j : Nat) t v, Tryd.f10.params[j]? = some t → args[j]? = some v → Value.okWide Tryd.prog W .any base t v := hval0
  have hW' := hW
  obtain ⟨p, q, hA0, hV, rfl, hfz, hnd⟩ := hW
  have hA : DataW.TrodAll enc Tryd.prog W 0 (fun _ => true) true Tryd.f10.params.toList args.toList ds p := hA0
  rw [Tryd.params10] at hA hval
  obtain ⟨v0, vs0, d0, ds0, p0, q0, hargs, rfl, rfl, h0, r0⟩ := trodAll_cons hA
  obtain ⟨v1, vs1, d1, ds1, p1, q1, rfl, rfl, rfl, h1, r1⟩ := trodAll_cons r0
  obtain ⟨rfl, rfl, rfl⟩ := trodAll_nil r1
  obtain rfl : args = #[v0, v1] := by cases args; simp_all
  obtain ⟨rfl, rfl⟩ := trodVars_none hV
  obtain ⟨a0, rfl, rfl, rfl, w0⟩ := open_int Tryd.underlying3 (hval 0 3 v0 rfl rfl) h0
  have k1 := h1
  have lt1 : ∀ x ∈ p1, x.block < W.heap.size := by obtain ⟨m, hm⟩ := k1; exact DataW.trod_lt m _ _ _ hm
  obtain ⟨pp1, cc1, ll1, rfl, za1, zb1, zc1⟩ := open_pairs (hval 1 22 v1 rfl rfl) h1
  clear hA0 hval0
  refine (walk a0 pp1 cc1 ll1 W w0 za1 zb1 zc1 hT).mono fun e W' ⟨he, bel⟩ => ?_
  subst he
  exact ⟨_, rfl, _, _, _, [], _, [], hW', trodAll_mk1 (shut_bool Tryd.underlying4 _), (trodAll_cons_mk (shut_int Tryd.underlying3 w0) (trodAll_cons_mk (Below.trod laidOut (by kernel_rfl) (of_decide_eq_true (by kernel_rfl)) k1 bel lt1) trodAll_mk0)), rfl, bel.frame _, fun h => by cases h⟩

theorem said : Rows.RelCycleSaid :=
  OpenClaim.holds_of_cond 10 Tryd.f10 rfl rfl rfl rfl rfl rfl rfl ⟨rfl, rfl, rfl, rfl, rfl⟩ rfl rfl rfl rfl rfl (by kernel_rfl) Tryd.func10 (by kernel_rfl)
    (of_decide_eq_true (by kernel_rfl)) (by unfold Func.isWrapper; first | (rw [if_pos (by decide +kernel)]; kernel_rfl) | (rw [if_neg (by decide +kernel)]; exact ⟨rfl, rfl⟩))
    (fun os started H enc _ F => by rw [OpenClaim.pre_eq_preRow]; exact lifted os started H enc F)
/-- No parameter wants a stand-in; the program's own looks are off. -/
theorem plain (f : FuncId) (fn : Func) (hf : Tryd.pinned.checked.prog.funcNamed Rows.relCycleRow.func = some f) (hfn : Tryd.pinned.checked.prog.funcs[f]? = some fn) :
    false = Tryd.pinned.checked.prog.looks [] ∧ ∀ (j : Nat) t, fn.params[j]? = some t → Tryd.pinned.checked.prog.wantsStandIn t = false := by
  obtain rfl : f = 10 := Option.some.inj ((show Tryd.prog.funcNamed Rows.relCycleRow.func = some 10 by kernel_rfl).symm.trans hf) |>.symm
  obtain rfl : fn = Tryd.f10 := (Option.some.inj (Tryd.func10.symm.trans hfn)).symm
  refine ⟨by kernel_rfl, fun j t ht => ?_⟩
  rw [Tryd.params10] at ht
  have hm := Array.mem_of_getElem? ht
  simp at hm
  rcases hm with rfl | rfl
  all_goals exact (show Tryd.prog.wantsStandIn _ = false by kernel_rfl)
/-- The card. -/
theorem proved : Rows.RelCycleCardSaid :=
  Claim7.holds_tied_plain_at .later [] _ _ _ _ said (fun _ h => by cases h) (by kernel_rfl) (fun _ h => by cases h) relCycle_row_tie rfl ⟨rfl, rfl⟩ (by kernel_rfl) rfl plain (by kernel_rfl)
#print axioms proved
end Go.Proofs.YtmiajpoclgdhbaaDoor.relCycle
