/- Whether of any two of some things one is related to the other: Total answers as the document does, for every input. -/
import Derived.Test.YtmiajpoclgdhbaaDoorCards
import Derived.Test.YtmiajpoclgdhbaaDoorTie
import Derived.Test.YtmiajpoclgdhbaaDoorRows
import Derived.WalkKit
import Derived.ProofKit
import Derived.OpenShut
import Derived.Deep.DeepHandedRow
import Derived.Lib.LaidTab
import Derived.Test.YtmiajpoclgdhbaaDoorBase
import Derived.ShutString
import Derived.ChangeOld
import Derived.Lib.SmallJoins
import Derived.Test.YtmiajpoclgdhbaaDoorRelLaid
import Derived.Test.YtmiajpoclgdhbaaDoorRelTotalW
namespace Go.Proofs.YtmiajpoclgdhbaaDoor.relTotal
open Go.ChangeShapes Go.WideShapes Go.ChangeAt Go.RowKit
set_option linter.unusedVariables false
set_option linter.unusedSimpArgs false

theorem own : ownKnob Tryd.prog.godebug = none := by kernel_rfl
theorem laidOut : laidOutB Tryd.prog = true := by kernel_rfl

set_option maxRecDepth 100000 in
set_option maxHeartbeats 3200000 in
theorem walk (n : Int) (p : Option Addr) (c : Nat) (l : List (Int × Int)) (p2 : Option Addr) (c2 : Nat) (sm : List Bool) (w : World) (_ : (Lit.int .i64 n).wf = true) (hl : l.length ≤ 9223372036854775807) (hc : l.length ≤ c) (hp : Rds w 2 p l.length (pairCells l)) (hl2 : sm.length ≤ 9223372036854775807) (hc2 : sm.length ≤ c2) (hp2 : Rds w 1 p2 sm.length (sm.map Value.bool)) (hT : TabW w) :
    Calls Tryd.prog 3 #[.int .i64 n, .slice p l.length c, .slice p2 sm.length c2] w fun e w' => e = .returned (.bool true) ∧ Below w.heap.size w w' := by
  have HP := Lib.hid hp
  have HP2 := Lib.hid hp2
  have HA := Lib.hid (awake_any w hT)
  clear hp hp2 hT
  go_enter Tryd.func3, Tryd.ntmps3
  go_wp2_with fail
  refine (HA.out).mono ?_
  rintro e w1 ⟨rfl, hb1⟩
  have HB := Lib.hid hb1
  have HBO := Lib.hid (both_any n l p c w1 hl (HP.out.below hb1) hc)
  clear hb1 HA
  go_wp2_with fail
  refine (HBO.out).mono ?_
  rintro e w2 ⟨hb2, ⟨hbad, rfl⟩ | ⟨hok, N, t, h, g, rfl, hN, ht, hg, hh, rfl, hta, hr⟩⟩
  · have HB2 := Lib.hid (below_trans HB.out hb2)
    clear hb2 hbad HBO
    go_wp2_with fail
    go_ret
    exact ⟨rfl, HB2.out⟩
  · have HB2 := Lib.hid (below_trans HB.out hb2)
    have HLO := Lib.hid (show l.all (okP N) = true from by
      unfold bothOk at hok
      rw [Bool.and_eq_true] at hok
      simpa using hok.2)
    have HS := Lib.hid (HP2.out.below HB2.out)
    by_cases hlong : 60 < sm.length
    · have hli : (60 : Int) < sm.length := by omega
      clear hb2 hok HBO hta hr
      go_wp2_with fail
      go_ret
      exact ⟨rfl, HB2.out⟩
    · have hli : ¬ (60 : Int) < sm.length := by omega
      have HTO := Lib.hid (reltotal_any h g N _ sm p2 c2 w2 hr (by omega) HS.out hc2 (by omega))
      have HTH := Lib.hid (fun a b => thas_any t N (inL l) a b w2 hta)
      have hZ : hasZ (ofW N l) N = tabZ (inL l) N := by funext a b; exact hasZ_of N (by omega) l HLO.out a b
      rw [hZ] at HTO
      have HTW := Lib.hid (tot_want (tabZ (inL l) N) sm)
      clear hb2 hok HBO hta hr hZ
      generalize tabZ (inL l) N = f at *
      go_wp2_with fail
      go_loop [9, 10] (fun v i => ∃ k : Nat, k ≤ sm.length ∧ i = .int .i64 k ∧ v = .bool (wantTo f sm k 0)) (fun _ i => sm.length - (intOf i).toNat)
      case atStart => exact ⟨0, by omega, rfl, by rw [wantTo_start]⟩
      case round =>
        obtain ⟨k, hk, rfl, rfl⟩ := hrel
        by_cases hlt : k < sm.length
        · obtain ⟨g1, off, rfl, ca⟩ := bool_at HS.out hlt
          have hk0 : (0 : Int) ≤ k := by omega
          have hki : (k : Int) < sm.length := by omega
          go_wp2_with fail
          go_loop [9, 11] (fun v i => ∃ j : Nat, j ≤ sm.length ∧ i = .int .i64 j ∧ v = .bool (wantTo f sm k j)) (fun _ i => sm.length - (intOf i).toNat)
          case atStart => exact ⟨0, by omega, rfl, rfl⟩
          case round =>
            obtain ⟨j, hj, rfl, rfl⟩ := hrel
            by_cases hlj : j < sm.length
            · obtain ⟨g2, off2, hpe, cb⟩ := bool_at HS.out hlj
              injection hpe with hpe
              injection hpe with e1 e2 e3
              subst e1 e2
              have hj0 : (0 : Int) ≤ j := by omega
              have hjs : (j : Int) < sm.length := by omega
              have HW := Lib.hid (wantTo_step f sm k j)
              have HD := Lib.hid (show badT f sm k j = (sm.getD k false && sm.getD j false && !f k j && !f j k) from rfl)
              have HA := Lib.hid (HTH.out k j)
              have HBB := Lib.hid (HTH.out j k)
              obtain ⟨z2, hz2⟩ : ∃ z, wantTo f sm k (j + 1) = z := ⟨_, rfl⟩
              have HZ2 := Lib.hid hz2
              rw [hz2] at HW
              clear hz2
              generalize wantTo f sm k j = z1 at *
              generalize badT f sm k j = z at *
              generalize sm.getD k false = s1 at *
              generalize sm.getD j false = s2 at *
              generalize f k j = f1 at *
              generalize f j k = f2 at *
              by_cases hkj : k = j
              · subst hkj
                have HZ := Lib.hid (show z1 = z2 from by rw [HW.out]; simp)
                go_wp2_with fail
                go_round
                case rel => exact ⟨k + 1, by omega, by go_num, by rw [HZ.out, HZ2.out]⟩
                case measure => simp [intOf]; omega
              · have hkd : decide (k ≠ j) = true := by simpa using hkj
                have hkb : ((k : Int) == (j : Int)) = false := by simp; omega
                have hkn : ((k : Int) != (j : Int)) = true := by simp; omega
                rw [hkd] at HW
                clear hkd hkj
                cases s1
                · have HZ := Lib.hid (show z1 = z2 from by rw [HW.out, HD.out]; simp)
                  go_wp2_with fail
                  go_round
                  case rel => exact ⟨j + 1, by omega, by go_num, by rw [HZ.out, HZ2.out]⟩
                  case measure => simp [intOf]; omega
                · cases s2
                  · have HZ := Lib.hid (show z1 = z2 from by rw [HW.out, HD.out]; simp)
                    go_wp2_with fail
                    go_round
                    case rel => exact ⟨j + 1, by omega, by go_num, by rw [HZ.out, HZ2.out]⟩
                    case measure => simp [intOf]; omega
                  · go_wp2_with fail
                    refine (HA.out).mono ?_
                    rintro e w' ⟨rfl, rfl⟩
                    cases f1
                    · go_wp2_with fail
                      refine (HBB.out).mono ?_
                      rintro e w' ⟨rfl, rfl⟩
                      cases f2
                      · have HZ := Lib.hid (show z2 = false from by rw [HW.out, HD.out]; simp)
                        go_wp2_with fail
                        go_round
                        case rel => exact ⟨j + 1, by omega, by go_num, by rw [HZ2.out, HZ.out]⟩
                        case measure => simp [intOf]; omega
                      · have HZ := Lib.hid (show z1 = z2 from by rw [HW.out, HD.out]; simp)
                        go_wp2_with fail
                        go_round
                        case rel => exact ⟨j + 1, by omega, by go_num, by rw [HZ.out, HZ2.out]⟩
                        case measure => simp [intOf]; omega
                    · have HZ := Lib.hid (show z1 = z2 from by rw [HW.out, HD.out]; simp)
                      go_wp2_with fail
                      go_round
                      case rel => exact ⟨j + 1, by omega, by go_num, by rw [HZ.out, HZ2.out]⟩
                      case measure => simp [intOf]; omega
            · obtain rfl : j = sm.length := by omega
              go_wp2_with fail
              go_round
              case rel => exact ⟨k + 1, by omega, by go_num, by rw [wantTo_next]⟩
              case measure => simp [intOf]; omega
        · obtain rfl : k = sm.length := by omega
          have HWE := Lib.hid (show totB f sm = wantTo f sm sm.length 0 from HTW.out.trans (wantTo_end f sm).symm)
          generalize wantTo f sm sm.length 0 = z at *
          generalize totB f sm = y at *
          obtain rfl : y = z := HWE.out
          go_wp2_with fail
          refine (HTO.out).mono ?_
          rintro e w' ⟨rfl, rfl⟩
          go_wp2_with fail
          go_ret
          exact ⟨by simp, HB2.out⟩

/-- A world for the witness: the settled one, the table holding what its initialiser lays. -/
noncomputable def laidWorld (os : Os) : World :=
  { World.holding Tryd.prog os ⟨#[], #[], []⟩ with heap := (World.holding Tryd.prog os ⟨#[], #[], []⟩).heap.modify 0 fun
      | .cells _ t frozen => .cells (TABZ.map (Value.int .u8)).toArray t frozen
      | o => o }
theorem laid_met (os : Os) : laidMet Tryd.prog Rows.relTotalRow.laid ((laidWorld os).forCall (fun _ _ => 0) ⟨#[], #[.int .i64 0, .slice none 0 0, .slice none 0 0], []⟩).memory :=
  laidMet_of_run' 8 (by kernel_rfl) (by kernel_rfl)
theorem reads (os : Os) {H : Type} (enc : TypeId × Value → H) : ∃ places, DataW.whole enc Tryd.prog ((laidWorld os).forCall (fun _ _ => 0) ⟨#[], #[.int .i64 0, .slice none 0 0, .slice none 0 0], []⟩).memory Tryd.f3.params.toList Rows.relTotalSpec.vars false (#[.int .i64 0, .slice none 0 0, .slice none 0 0] : Array Value).toList 8 = some ([.lit (.int .i64 0), .nil, .nil], [], places) :=
  ⟨[], by kernel_rfl⟩

set_option maxRecDepth 100000 in
theorem lifted (os : Os) (started : os.Started) (H : Type) (enc : TypeId × Value → H) (F : Stop.Interp) :
    ReturnsInHanded {} Tryd.checked os 3 .any ((OpenSpec.ofChange Rows.relTotalSpec).preRow enc Tryd.prog Tryd.f3 Rows.relTotalRow.domain false Rows.relTotalRow.laid) (((OpenSpec.ofChange Rows.relTotalSpec).at F).post enc Tryd.prog Tryd.f3 false true false false) := by
  obtain ⟨places, hx⟩ := reads os enc
  refine returnsInHanded_of_row (C := Tryd.checked) (s := OpenSpec.ofChange Rows.relTotalSpec) own started (by kernel_rfl) Tryd.func3
    (witness_row_at (enc := enc) (C := Tryd.checked) false (laidWorld os) #[.int .i64 0, .slice none 0 0, .slice none 0 0] rfl (by kernel_rfl) (by kernel_rfl) (by kernel_rfl)
      (OpenSpec.preRow_of_cond 8 hx (by kernel_rfl) (fun k hk => by cases hk) (by kernel_rfl) (laid_met os))) ?_
  intro W base args ds gs before hval0 hW _ _ _ hL _ _
  have hT : TabW W := tabW_of hL
  have hval : ∀ (j : Nat) t v, Tryd.f3.params[j]? = some t → args[j]? = some v → Value.okWide Tryd.prog W .any base t v := hval0
  have hW' := hW
  obtain ⟨p, q, hA0, hV, rfl, hfz, hnd⟩ := hW
  have hA : DataW.TrodAll enc Tryd.prog W 0 (fun _ => true) true Tryd.f3.params.toList args.toList ds p := hA0
  rw [Tryd.params3] at hA hval
  obtain ⟨v0, vs0, d0, ds0, p0, q0, hargs, rfl, rfl, h0, r0⟩ := trodAll_cons hA
  obtain ⟨v1, vs1, d1, ds1, p1, q1, rfl, rfl, rfl, h1, r1⟩ := trodAll_cons r0
  obtain ⟨v2, vs2, d2, ds2, p2, q2, rfl, rfl, rfl, h2, r2⟩ := trodAll_cons r1
  obtain ⟨rfl, rfl, rfl⟩ := trodAll_nil r2
  obtain rfl : args = #[v0, v1, v2] := by cases args; simp_all
  obtain ⟨rfl, rfl⟩ := trodVars_none hV
  obtain ⟨a0, rfl, rfl, rfl, w0⟩ := open_int Tryd.underlying3 (hval 0 3 v0 rfl rfl) h0
  have k1 := h1
  have lt1 : ∀ x ∈ p1, x.block < W.heap.size := by obtain ⟨m, hm⟩ := k1; exact DataW.trod_lt m _ _ _ hm
  obtain ⟨pp1, cc1, ll1, rfl, za1, zb1, zc1⟩ := open_pairs (hval 1 22 v1 rfl rfl) h1
  have k2 := h2
  have lt2 : ∀ x ∈ p2, x.block < W.heap.size := by obtain ⟨m, hm⟩ := k2; exact DataW.trod_lt m _ _ _ hm
  obtain ⟨pp2, cc2, ll2, rfl, za2, zb2, zc2⟩ := open_bools (hval 2 23 v2 rfl rfl) h2
  clear hA0 hval0
  refine (walk a0 pp1 cc1 ll1 pp2 cc2 ll2 W w0 za1 zb1 zc1 za2 zb2 zc2 hT).mono fun e W' ⟨he, bel⟩ => ?_
  subst he
  exact ⟨_, rfl, _, _, _, [], _, [], hW', trodAll_mk1 (shut_bool Tryd.underlying4 _), (trodAll_cons_mk (shut_int Tryd.underlying3 w0) (trodAll_cons_mk (Below.trod laidOut (by kernel_rfl) (of_decide_eq_true (by kernel_rfl)) k1 bel lt1) (trodAll_cons_mk (Below.trod laidOut (by kernel_rfl) (of_decide_eq_true (by kernel_rfl)) k2 bel lt2) trodAll_mk0))), rfl, bel.frame _, fun h => by cases h⟩

theorem said : Rows.RelTotalSaid :=
  OpenClaim.holds_of_cond 3 Tryd.f3 rfl rfl rfl rfl rfl rfl rfl ⟨rfl, rfl, rfl, rfl, rfl⟩ rfl rfl rfl rfl rfl (by kernel_rfl) Tryd.func3 (by kernel_rfl)
    (of_decide_eq_true (by kernel_rfl)) (by unfold Func.isWrapper; first | (rw [if_pos (by decide +kernel)]; kernel_rfl) | (rw [if_neg (by decide +kernel)]; exact ⟨rfl, rfl⟩))
    (fun os started H enc _ F => by rw [OpenClaim.pre_eq_preRow]; exact lifted os started H enc F)
/-- No parameter wants a stand-in; the program's own looks are off. -/
theorem plain (f : FuncId) (fn : Func) (hf : Tryd.pinned.checked.prog.funcNamed Rows.relTotalRow.func = some f) (hfn : Tryd.pinned.checked.prog.funcs[f]? = some fn) :
    false = Tryd.pinned.checked.prog.looks [] ∧ ∀ (j : Nat) t, fn.params[j]? = some t → Tryd.pinned.checked.prog.wantsStandIn t = false := by
  obtain rfl : f = 3 := Option.some.inj ((show Tryd.prog.funcNamed Rows.relTotalRow.func = some 3 by kernel_rfl).symm.trans hf) |>.symm
  obtain rfl : fn = Tryd.f3 := (Option.some.inj (Tryd.func3.symm.trans hfn)).symm
  refine ⟨by kernel_rfl, fun j t ht => ?_⟩
  rw [Tryd.params3] at ht
  have hm := Array.mem_of_getElem? ht
  simp at hm
  rcases hm with rfl | rfl | rfl
  all_goals exact (show Tryd.prog.wantsStandIn _ = false by kernel_rfl)
/-- The card. -/
theorem proved : Rows.RelTotalCardSaid :=
  Claim7.holds_tied_plain_at .later [] _ _ _ _ said (fun _ h => by cases h) (by kernel_rfl) (fun _ h => by cases h) relTotal_row_tie rfl ⟨rfl, rfl⟩ (by kernel_rfl) rfl plain (by kernel_rfl)
#print axioms proved
end Go.Proofs.YtmiajpoclgdhbaaDoor.relTotal
