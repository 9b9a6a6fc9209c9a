/- The pairs from some things to some things are told, or the marks are refused: Within answers as the document does, for every input. -/
import Derived.Test.YtmiajpoclgdhbaaDoorCards
import Derived.Test.YtmiajpoclgdhbaaDoorTie
import Derived.Test.YtmiajpoclgdhbaaDoorRows
import Derived.WalkKit
import Derived.ProofKit
import Derived.OpenShut
import Derived.Deep.DeepHandedRow
import Derived.Lib.LaidTab
import Derived.Test.YtmiajpoclgdhbaaDoorBase
import Derived.ShutString
import Derived.ChangeOld
import Derived.Lib.SmallJoins
import Derived.Test.YtmiajpoclgdhbaaDoorRelLaid
import Derived.Test.YtmiajpoclgdhbaaDoorRelWith
import Derived.Test.YtmiajpoclgdhbaaDoorRelFill
namespace Go.Proofs.YtmiajpoclgdhbaaDoor.relWithin
open Go.ChangeShapes Go.WideShapes Go.ChangeAt Go.RowKit
set_option linter.unusedVariables false
set_option linter.unusedSimpArgs false

theorem own : ownKnob Tryd.prog.godebug = none := by kernel_rfl
theorem laidOut : laidOutB Tryd.prog = true := by kernel_rfl

set_option maxRecDepth 100000 in
set_option maxHeartbeats 4000000 in
theorem walk (p : Option Addr) (c : Nat) (l : List (Int × Int)) (pf : Option Addr) (cf : Nat) (fr : List Bool) (pt : Option Addr) (ct : Nat) (to_ : List Bool) (w : World) (hl : l.length ≤ 9223372036854775807) (hc : l.length ≤ c) (hp : Rds w 2 p l.length (pairCells l)) (hlf : fr.length ≤ 9223372036854775807) (hcf : fr.length ≤ cf) (hpf : Rds w 1 pf fr.length (fr.map Value.bool)) (hlt : to_.length ≤ 9223372036854775807) (hct : to_.length ≤ ct) (hpt : Rds w 1 pt to_.length (to_.map Value.bool)) (hT : TabW w) :
    Calls Tryd.prog 9 #[.slice p l.length c, .slice pf fr.length cf, .slice pt to_.length ct] w fun e w' => e = .returned (.bool true) ∧ Below w.heap.size w w' := by
  have HP := Lib.hid hp
  have HT := Lib.hid hT
  have HA := Lib.hid (awake_any w hT)
  obtain ⟨M, hM⟩ : ∃ M, fr.length = M := ⟨_, rfl⟩
  have HM := Lib.hid hM
  by_cases htn : to_.length = M
  · have HMT := Lib.hid htn
    have HF := Lib.hid hpf
    have HTO := Lib.hid hpt
    rw [hM] at hcf hlf ⊢
    rw [htn] at hct hlt ⊢
    clear hp hpf hpt hT hM htn
    go_enter Tryd.func9, Tryd.ntmps9
    go_wp2_with fail
    refine (HA.out).mono ?_
    rintro e w1 ⟨rfl, hb1⟩
    have HB := Lib.hid hb1
    have HBO := Lib.hid (both_any M l p c w1 hl (HP.out.below hb1) hc)
    clear hb1 HA
    go_wp2_with fail
    refine (HBO.out).mono ?_
    rintro e w2 ⟨hb2, ⟨hbad, rfl⟩ | ⟨hok, N, t, h, g, hNe, hN, ht, hg, hh, rfl, hta, hr⟩⟩
    · have HB2 := Lib.hid (below_trans HB.out hb2)
      clear hb2 hbad HBO
      go_wp2_with fail
      go_ret
      exact ⟨rfl, HB2.out⟩
    · have HB2 := Lib.hid (below_trans HB.out hb2)
      have HLO := Lib.hid (show l.all (okP M) = true from by
        unfold bothOk at hok
        rw [Bool.and_eq_true] at hok
        simpa using hok.2)
      obtain rfl : M = N := by omega
      have HTA := Lib.hid hta
      have HR := Lib.hid hr
      have HT2 := Lib.hid (HT.out.belowS HB2.out)
      have HWI := relwith_ok h g M _ pf pt cf ct fr to_ w2 HR.out (by omega) (says_wf (says_of (by omega) HLO.out)) HM.out HMT.out (HF.out.below HB2.out) (HTO.out.below HB2.out) HT2.out
      rw [HM.out, HMT.out] at HWI
      have HWI := Lib.hid HWI
      clear hb2 hok HBO hta hr hNe
      have hli : ¬ (200 : Int) < M := by omega
      go_wp2_with fail
      refine (HWI.out).mono ?_
      rintro e w3 ⟨rfl, hx, hb3⟩
      have HX := Lib.hid hx
      have HB3 := Lib.hid (below_trans HB2.out hb3)
      have HTA3 := Lib.hid (HTA.out.keep hb3)
      have HT3 := Lib.hid (HT2.out.belowS hb3)
      have HEM := Lib.hid (empty_any M w3 (by omega))
      generalize w2.heap.size = B2 at *
      clear hx hb3 HWI HTA HT2 HR HB2 HB
      go_wp2_with fail
      refine (HEM.out).mono ?_
      rintro e w4 ⟨rfl, hu, hb4, hz4⟩
      have HU := Lib.hid (show TabAt w4 w3.heap.size M (fillTo (fun a b => inL l a b && fr.getD a false && to_.getD b false) 0 0) from by rw [fill_zero]; exact hu)
      have HB4 := Lib.hid hb4
      clear hu hb4 hz4 HEM
      go_wp2_with fail
      go_loopw [13] (fun i wr => ∃ k : Nat, k ≤ M ∧ i = .int .i64 k ∧ TabAt wr w3.heap.size M (fillTo (fun a b => inL l a b && fr.getD a false && to_.getD b false) k 0) ∧ Below w3.heap.size w3 wr) (fun i _ => M - (intOf i).toNat)
      case atStart => exact ⟨0, by omega, rfl, HU.out, HB4.out⟩
      case round =>
        clear HU HB4
        obtain ⟨k, hk, rfl, hU, hB⟩ := hrel
        obtain ⟨wo, rfl⟩ : ∃ wo : World, wo = wr := ⟨_, rfl⟩
        by_cases hkl : k < M
        · have HU := Lib.hid hU
          have HBR := Lib.hid hB
          have hk0 : (0 : Int) ≤ k := by omega
          have hki : (k : Int) < M := by omega
          clear hU hB
          go_wp2_with fail
          go_loopw [14] (fun i wr => ∃ j : Nat, j ≤ M ∧ i = .int .i64 j ∧ TabAt wr w3.heap.size M (fillTo (fun a b => inL l a b && fr.getD a false && to_.getD b false) k j) ∧ Below w3.heap.size w3 wr) (fun i _ => M - (intOf i).toNat)
          case atStart => exact ⟨0, by omega, rfl, HU.out, HBR.out⟩
          case round =>
            clear HU HBR
            obtain ⟨j, hj, rfl, hU, hB⟩ := hrel
            obtain ⟨wi, rfl⟩ : ∃ wi : World, wi = wr := ⟨_, rfl⟩
            by_cases hjl : j < M
            · have hta := HTA3.out.keep hB
              have t0 := hta.outer hkl
              have t1 := hta.mark hkl hjl
              have u0 := hU.outer hkl
              have u1 := hU.mark hkl hjl
              have uf := hU.free hkl j
              obtain ⟨gf, of_, hpf, f1⟩ := bool_at ((HF.out.below HB3.out).below hB) (show k < fr.length by rw [HM.out]; exact hkl)
              subst hpf
              obtain ⟨gt, ot, hpt, o1⟩ := bool_at ((HTO.out.below HB3.out).below hB) (show j < to_.length by rw [HMT.out]; exact hjl)
              subst hpt
              have HFILL := Lib.hid (fun v e => hU.fill hkl v e)
              have HBS := Lib.hid (fun v => hB.setCell (p := ⟨w3.heap.size + 1 + k, j, none⟩) (by simp; omega) (.bool v))
              have hj0 : (0 : Int) ≤ j := by omega
              have hji : (j : Int) < M := by omega
              clear hta hU hB
              generalize fillTo (fun a b => inL l a b && fr.getD a false && to_.getD b false) k j k j = old at *
              obtain ⟨z1, hz1⟩ : ∃ z, inL l k j = z := ⟨_, rfl⟩
              obtain ⟨z2, hz2⟩ : ∃ z, fr.getD k false = z := ⟨_, rfl⟩
              obtain ⟨z3, hz3⟩ : ∃ z, to_.getD j false = z := ⟨_, rfl⟩
              rw [hz1] at t1
              rw [hz2] at f1
              rw [hz3] at o1
              have HFILL := Lib.hid (show TabAt ((wi.setCell ⟨w3.heap.size + 1 + k, j, none⟩ (.bool (z1 && z2 && z3)))) w3.heap.size M (fillTo (fun a b => inL l a b && fr.getD a false && to_.getD b false) k (j + 1)) from HFILL.out _ (by rw [hz1, hz2, hz3]))
              clear hz1 hz2 hz3
              cases z1
              · skip
                go_wp2_with fail
                refine region_tail 25 (by kernel_rfl) (by kernel_rfl) ?_
                simp only [List.take_succ_cons, List.take_zero, List.drop_succ_cons, List.drop_zero]
                repeat still_step
                refine wpStill_nil ?_
                go_wp2_with fail
                go_roundw
                case rel => exact ⟨j + 1, by omega, by go_num, HFILL.out, below_drewN (HBS.out _) 1⟩
                case measure => simp [intOf]; omega
              · cases z2
                · skip
                  go_wp2_with fail
                  refine region_tail 25 (by kernel_rfl) (by kernel_rfl) ?_
                  simp only [List.take_succ_cons, List.take_zero, List.drop_succ_cons, List.drop_zero]
                  repeat still_step
                  refine wpStill_nil ?_
                  go_wp2_with fail
                  go_roundw
                  case rel => exact ⟨j + 1, by omega, by go_num, HFILL.out, below_drewN (HBS.out _) 1⟩
                  case measure => simp [intOf]; omega
                · skip
                  go_wp2_with fail
                  refine region_tail 25 (by kernel_rfl) (by kernel_rfl) ?_
                  simp only [List.take_succ_cons, List.take_zero, List.drop_succ_cons, List.drop_zero]
                  repeat still_step
                  refine wpStill_nil ?_
                  go_wp2_with fail
                  go_roundw
                  case rel => exact ⟨j + 1, by omega, by go_num, HFILL.out, below_drewN (HBS.out _) 1⟩
                  case measure => simp [intOf]; omega
            · obtain rfl : j = M := by omega
              have HU := Lib.hid hU.fillNext
              have HBR := Lib.hid hB
              clear hU hB
              go_wp2_with fail
              go_roundw
              case rel => exact ⟨k + 1, by omega, by go_num, HU.out, HBR.out⟩
              case measure => simp [intOf]; omega
        · obtain rfl : k = M := by omega
          have HU := Lib.hid hU.filled
          have HBR := Lib.hid (below_trans HB3.out hB)
          have HIS := Lib.hid (is_any _ _ _ _ _ _ wo (HX.out.below hB) HU.out (with_says (by omega) (says_of (by omega) HLO.out)) (by omega) (HT3.out.belowS hB))
          clear hU hB
          go_wp2_with fail
          refine (HIS.out).mono ?_
          rintro e w5 ⟨rfl, hb5⟩
          have HB5 := Lib.hid (below_trans HBR.out hb5)
          clear hb5
          go_wp2_with fail
          go_ret
          exact ⟨rfl, HB5.out⟩
  · rw [hM] at hcf hlf ⊢
    obtain ⟨L2, hL2⟩ : ∃ L2, to_.length = L2 := ⟨_, rfl⟩
    rw [hL2] at htn hct hlt ⊢
    clear hp hpf hpt hT hM hL2
    go_enter Tryd.func9, Tryd.ntmps9
    go_wp2_with fail
    refine (HA.out).mono ?_
    rintro e w1 ⟨rfl, hb1⟩
    have HB := Lib.hid hb1
    have HBO := Lib.hid (both_any M l p c w1 hl (HP.out.below hb1) hc)
    clear hb1 HA
    go_wp2_with fail
    refine (HBO.out).mono ?_
    rintro e w2 ⟨hb2, ⟨hbad, rfl⟩ | ⟨hok, N, t, h, g, hNe, hN, ht, hg, hh, rfl, hta, hr⟩⟩
    · have HB2 := Lib.hid (below_trans HB.out hb2)
      clear hb2 hbad HBO
      go_wp2_with fail
      go_ret
      exact ⟨rfl, HB2.out⟩
    · have HB2 := Lib.hid (below_trans HB.out hb2)
      obtain rfl : M = N := by omega
      have HWI := Lib.hid (relwith_bad h g M _ pf pt cf ct M L2 w2 hr (by omega) rfl htn)
      have hteb : ((L2 : Int) == (M : Int)) = false := by simp; omega
      have hten : ((L2 : Int) != (M : Int)) = true := by simp; omega
      clear hb2 hok HBO hta hr hNe
      by_cases hlong : 200 < L2
      · have hli : (200 : Int) < L2 := by omega
        go_wp2_with fail
        go_ret
        exact ⟨rfl, HB2.out⟩
      · have hli : ¬ (200 : Int) < L2 := by omega
        go_wp2_with fail
        refine (HWI.out).mono ?_
        rintro e w' ⟨rfl, rfl⟩
        go_wp2_with fail
        go_ret
        exact ⟨rfl, HB2.out⟩

/-- A world for the witness: the settled one, the table holding what its initialiser lays. -/
noncomputable def laidWorld (os : Os) : World :=
  { World.holding Tryd.prog os ⟨#[], #[], []⟩ with heap := (World.holding Tryd.prog os ⟨#[], #[], []⟩).heap.modify 0 fun
      | .cells _ t frozen => .cells (TABZ.map (Value.int .u8)).toArray t frozen
      | o => o }
theorem laid_met (os : Os) : laidMet Tryd.prog Rows.relWithinRow.laid ((laidWorld os).forCall (fun _ _ => 0) ⟨#[], #[.slice none 0 0, .slice none 0 0, .slice none 0 0], []⟩).memory :=
  laidMet_of_run' 8 (by kernel_rfl) (by kernel_rfl)
theorem reads (os : Os) {H : Type} (enc : TypeId × Value → H) : ∃ places, DataW.whole enc Tryd.prog ((laidWorld os).forCall (fun _ _ => 0) ⟨#[], #[.slice none 0 0, .slice none 0 0, .slice none 0 0], []⟩).memory Tryd.f9.params.toList Rows.relWithinSpec.vars false (#[.slice none 0 0, .slice none 0 0, .slice none 0 0] : Array Value).toList 8 = some ([.nil, .nil, .nil], [], places) :=
  ⟨[], by kernel_rfl⟩

set_option maxRecDepth 100000 in
theorem lifted (os : Os) (started : os.Started) (H : Type) (enc : TypeId × Value → H) (F : Stop.Interp) :
    ReturnsInHanded {} Tryd.checked os 9 .any ((OpenSpec.ofChange Rows.relWithinSpec).preRow enc Tryd.prog Tryd.f9 Rows.relWithinRow.domain false Rows.relWithinRow.laid) (((OpenSpec.ofChange Rows.relWithinSpec).at F).post enc Tryd.prog Tryd.f9 false true false false) := by
  obtain ⟨places, hx⟩ := reads os enc
  refine returnsInHanded_of_row (C := Tryd.checked) (s := OpenSpec.ofChange Rows.relWithinSpec) own started (by kernel_rfl) Tryd.func9
    (witness_row_at (enc := enc) (C := Tryd.checked) false (laidWorld os) #[.slice none 0 0, .slice none 0 0, .slice none 0 0] rfl (by kernel_rfl) (by kernel_rfl) (by kernel_rfl)
      (OpenSpec.preRow_of_cond 8 hx (by kernel_rfl) (fun k hk => by cases hk) (by kernel_rfl) (laid_met os))) ?_
  intro W base args ds gs before hval0 hW _ _ _ hL _ _
  have hT : TabW W := tabW_of hL
  have hval : ∀ (j : Nat) t v, Tryd.f9.params[j]? = some t → args[j]? = some v → Value.okWide Tryd.prog W .any base t v := hval0
  have hW' := hW
  obtain ⟨p, q, hA0, hV, rfl, hfz, hnd⟩ := hW
  have hA : DataW.TrodAll enc Tryd.prog W 0 (fun _ => true) true Tryd.f9.params.toList args.toList ds p := hA0
  rw [Tryd.params9] at hA hval
  obtain ⟨v0, vs0, d0, ds0, p0, q0, hargs, rfl, rfl, h0, r0⟩ := trodAll_cons hA
  obtain ⟨v1, vs1, d1, ds1, p1, q1, rfl, rfl, rfl, h1, r1⟩ := trodAll_cons r0
  obtain ⟨v2, vs2, d2, ds2, p2, q2, rfl, rfl, rfl, h2, r2⟩ := trodAll_cons r1
  obtain ⟨rfl, rfl, rfl⟩ := trodAll_nil r2
  obtain rfl : args = #[v0, v1, v2] := by cases args; simp_all
  obtain ⟨rfl, rfl⟩ := trodVars_none hV
  have k0 := h0
  have lt0 : ∀ x ∈ p0, x.block < W.heap.size := by obtain ⟨m, hm⟩ := k0; exact DataW.trod_lt m _ _ _ hm
  obtain ⟨pp0, cc0, ll0, rfl, za0, zb0, zc0⟩ := open_pairs (hval 0 22 v0 rfl rfl) h0
  have k1 := h1
  have lt1 : ∀ x ∈ p1, x.block < W.heap.size := by obtain ⟨m, hm⟩ := k1; exact DataW.trod_lt m _ _ _ hm
  obtain ⟨pp1, cc1, ll1, rfl, za1, zb1, zc1⟩ := open_bools (hval 1 23 v1 rfl rfl) h1
  have k2 := h2
  have lt2 : ∀ x ∈ p2, x.block < W.heap.size := by obtain ⟨m, hm⟩ := k2; exact DataW.trod_lt m _ _ _ hm
  obtain ⟨pp2, cc2, ll2, rfl, za2, zb2, zc2⟩ := open_bools (hval 2 23 v2 rfl rfl) h2
  clear hA0 hval0
  refine (walk pp0 cc0 ll0 pp1 cc1 ll1 pp2 cc2 ll2 W za0 zb0 zc0 za1 zb1 zc1 za2 zb2 zc2 hT).mono fun e W' ⟨he, bel⟩ => ?_
  subst he
  exact ⟨_, rfl, _, _, _, [], _, [], hW', trodAll_mk1 (shut_bool Tryd.underlying4 _), (trodAll_cons_mk (Below.trod laidOut (by kernel_rfl) (of_decide_eq_true (by kernel_rfl)) k0 bel lt0) (trodAll_cons_mk (Below.trod laidOut (by kernel_rfl) (of_decide_eq_true (by kernel_rfl)) k1 bel lt1) (trodAll_cons_mk (Below.trod laidOut (by kernel_rfl) (of_decide_eq_true (by kernel_rfl)) k2 bel lt2) trodAll_mk0))), rfl, bel.frame _, fun h => by cases h⟩

theorem said : Rows.RelWithinSaid :=
  OpenClaim.holds_of_cond 9 Tryd.f9 rfl rfl rfl rfl rfl rfl rfl ⟨rfl, rfl, rfl, rfl, rfl⟩ rfl rfl rfl rfl rfl (by kernel_rfl) Tryd.func9 (by kernel_rfl)
    (of_decide_eq_true (by kernel_rfl)) (by unfold Func.isWrapper; first | (rw [if_pos (by decide +kernel)]; kernel_rfl) | (rw [if_neg (by decide +kernel)]; exact ⟨rfl, rfl⟩))
    (fun os started H enc _ F => by rw [OpenClaim.pre_eq_preRow]; exact lifted os started H enc F)
/-- No parameter wants a stand-in; the program's own looks are off. -/
theorem plain (f : FuncId) (fn : Func) (hf : Tryd.pinned.checked.prog.funcNamed Rows.relWithinRow.func = some f) (hfn : Tryd.pinned.checked.prog.funcs[f]? = some fn) :
    false = Tryd.pinned.checked.prog.looks [] ∧ ∀ (j : Nat) t, fn.params[j]? = some t → Tryd.pinned.checked.prog.wantsStandIn t = false := by
  obtain rfl : f = 9 := Option.some.inj ((show Tryd.prog.funcNamed Rows.relWithinRow.func = some 9 by kernel_rfl).symm.trans hf) |>.symm
  obtain rfl : fn = Tryd.f9 := (Option.some.inj (Tryd.func9.symm.trans hfn)).symm
  refine ⟨by kernel_rfl, fun j t ht => ?_⟩
  rw [Tryd.params9] at ht
  have hm := Array.mem_of_getElem? ht
  simp at hm
  rcases hm with rfl | rfl
  all_goals exact (show Tryd.prog.wantsStandIn _ = false by kernel_rfl)
/-- The card. -/
theorem proved : Rows.RelWithinCardSaid :=
  Claim7.holds_tied_plain_at .later [] _ _ _ _ said (fun _ h => by cases h) (by kernel_rfl) (fun _ h => by cases h) relWithin_row_tie rfl ⟨rfl, rfl⟩ (by kernel_rfl) rfl plain (by kernel_rfl)
#print axioms proved
end Go.Proofs.YtmiajpoclgdhbaaDoor.relWithin
