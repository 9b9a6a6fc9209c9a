/- Any pairs over any number of things are a relation, or are refused: Of, New and Identity answer as the document does, for every input. -/
import Derived.Test.YtmiajpoclgdhbaaDoorCards
import Derived.Test.YtmiajpoclgdhbaaDoorTie
import Derived.Test.YtmiajpoclgdhbaaDoorRows
import Derived.WalkKit
import Derived.ProofKit
import Derived.OpenShut
import Derived.Deep.DeepHandedRow
import Derived.Lib.LaidTab
import Derived.Test.YtmiajpoclgdhbaaDoorBase
import Derived.ShutString
import Derived.ChangeOld
import Derived.Lib.SmallJoins
import Derived.Test.YtmiajpoclgdhbaaDoorRelLaid
import Derived.Test.YtmiajpoclgdhbaaDoorRelSame
namespace Go.Proofs.YtmiajpoclgdhbaaDoor.relMakes
open Go.ChangeShapes Go.WideShapes Go.ChangeAt Go.RowKit
set_option linter.unusedVariables false
set_option linter.unusedSimpArgs false

theorem own : ownKnob Tryd.prog.godebug = none := by kernel_rfl
theorem laidOut : laidOutB Tryd.prog = true := by kernel_rfl

theorem relof_bad (n : Int) (p : Option Addr) (m c : Nat) (w : World) (hn : n < 0 ∨ 128 < n) :
    Calls Tryd.prog 26 #[.int .i64 n, .slice p m c] w fun e w' => e = .returned (.tuple #[.pointer none, .int .i64 10]) ∧ w = w' := by
  have HN := Lib.hid (relnew_bad n w hn)
  go_enter Tryd.func26, Tryd.ntmps26
  go_wp2_with fail
  refine (HN.out).mono ?_
  rintro e w1 ⟨rfl, rfl⟩
  go_wp2_with fail
  go_ret2
  exact ⟨rfl, rfl⟩
theorem tof_bad (n : Int) (p : Option Addr) (m c : Nat) (w : World) (hn : n < 0 ∨ 128 < n) :
    Calls Tryd.prog 27 #[.int .i64 n, .slice p m c] w fun e w' => e = .returned (.tuple #[.slice none 0 0, .int .i64 10]) ∧ w = w' := by
  by_cases h : n < 0
  · go_enter Tryd.func27, Tryd.ntmps27
    go_wp2_with fail
    go_ret2
    exact ⟨rfl, rfl⟩
  · have h2 : 128 < n := by omega
    go_enter Tryd.func27, Tryd.ntmps27
    go_wp2_with fail
    go_ret2
    exact ⟨rfl, rfl⟩
theorem rowOf_nil (ws : List Nat) (a : Nat) (h : ∀ b, b < 128 → hasB ws a b = false) : rowOf ws a = [] := by
  rw [rowOf_filter, List.filter_eq_nil_iff]
  intro b hb
  rw [h b (List.mem_range.1 hb)]; simp
theorem pr_zeros (n k : Nat) : prTo (zeros n) k = [] := by
  induction k with
  | zero => rfl
  | succ k ih => rw [prTo_succ, ih, rowPr, rowOf_nil _ _ (fun b _ => hasB_zeros n k b)]; rfl
theorem hasB_id (n : Nat) (hn : n ≤ 128) : ∀ k, k ≤ n → ∀ x y, y < 128 → hasB (idW n k) x y = (decide (x = y) && decide (x < k)) := by
  intro k
  induction k with
  | zero => intro _ x y _; rw [show idW n 0 = zeros n from rfl, hasB_zeros]; simp
  | succ k ih =>
    intro hk x y hy
    have e : idW n (k + 1) = addP (idW n k) k k := by rw [idW, fold_succ]; rfl
    rw [e, hasB_addP (idW n k) n k k x y (idW_len n k) (by omega) (by omega) hy, ih (by omega) x y hy]
    rw [Bool.eq_iff_iff]; simp; omega
theorem pr_id (n : Nat) (hn : n ≤ 128) : ∀ k, k ≤ n → (prTo (idW n n) k).length = k := by
  intro k
  induction k with
  | zero => intro _; rfl
  | succ k ih =>
    intro hk
    rw [prTo_succ, List.length_append, ih (by omega), rowPr, List.length_map, rowOf_filter]
    have : (List.range 128).filter (hasB (idW n n) k) = [k] := by
      have h1 : hasB (idW n n) k k = true := by rw [hasB_id n hn n (Nat.le_refl _) k k (by omega)]; simp; omega
      rw [filter_cut (p := hasB (idW n n) k) (q := fun b => decide (k = b)) (n := k + 1) (by omega) (fun b hb => by rw [hasB_id n hn n (Nat.le_refl _) k b (by omega)]; simp; omega) (fun b hb hp => by rw [hasB_id n hn n (Nat.le_refl _) k b hb] at hp; simp at hp; omega)]
      rw [List.range_succ, List.filter_append, List.filter_eq_nil_iff.2 (fun b hb => by have := List.mem_range.1 hb; simp; omega)]
      simp
    rw [this]; rfl

set_option maxRecDepth 100000 in
set_option maxHeartbeats 3200000 in
theorem walk (n : Int) (p : Option Addr) (c : Nat) (l : List (Int × Int)) (w : World) (_ : (Lit.int .i64 n).wf = true) (hl : l.length ≤ 9223372036854775807) (hc : l.length ≤ c) (hp : Rds w 2 p l.length (pairCells l)) (hT : TabW w) :
    Calls Tryd.prog 6 #[.int .i64 n, .slice p l.length c] w fun e w' => e = .returned (.bool true) ∧ Below w.heap.size w w' := by
  have HP := Lib.hid hp
  have HT := Lib.hid hT
  have HA := Lib.hid (awake_any w hT)
  clear hp hT
  by_cases hlong : 300 < l.length
  · have hli : (300 : Int) < l.length := by omega
    go_enter Tryd.func6, Tryd.ntmps6
    go_wp2_with fail
    refine (HA.out).mono ?_
    rintro e w1 ⟨rfl, hb1⟩
    go_wp2_with fail
    go_ret
    exact ⟨rfl, hb1⟩
  have hli : ¬ (300 : Int) < l.length := by omega
  by_cases hbad : n < 0 ∨ 128 < n
  · by_cases h0 : n < 0
    all_goals
      go_enter Tryd.func6, Tryd.ntmps6
      go_wp2_with fail
      refine (HA.out).mono ?_
      rintro e w1 ⟨rfl, hb1⟩
      go_wp2_with fail
      refine (relof_bad n p l.length c _ hbad).mono ?_
      rintro e w' ⟨rfl, rfl⟩
      go_wp2_with fail
      refine (tof_bad n p l.length c _ hbad).mono ?_
      rintro e w' ⟨rfl, rfl⟩
      go_wp2_with fail
      refine (relnew_bad n _ hbad).mono ?_
      rintro e w' ⟨rfl, rfl⟩
      go_wp2_with fail
      refine (relid_bad n _ hbad).mono ?_
      rintro e w' ⟨rfl, rfl⟩
      have hb2 : n < 0 ∨ ¬ n < 0 ∧ 128 < n := by omega
      first
      | (go_wp2_with fail
         go_ret
         exact ⟨rfl, hb1⟩)
      | (have hg : 128 < n := by omega
         go_wp2_with fail
         go_ret
         exact ⟨rfl, hb1⟩)
  · obtain ⟨N, rfl⟩ := Int.eq_ofNat_of_zero_le (show 0 ≤ n by omega)
    have hN : N ≤ 128 := by omega
    have hNi : (N : Int) ≤ 128 := by omega
    clear hbad
    go_enter Tryd.func6, Tryd.ntmps6
    go_wp2_with fail
    refine (HA.out).mono ?_
    rintro e w1 ⟨rfl, hb1⟩
    have HB1 := Lib.hid hb1
    clear hb1 HA
    go_wp2_with fail
    refine (relof_any N l p c w1 hN (by omega) (HP.out.below HB1.out) hc).mono ?_
    rintro e w2 ⟨hb2, ⟨hok, rfl, hr⟩ | ⟨hno, rfl⟩⟩
    · have HB2 := Lib.hid (below_trans HB1.out hb2)
      have HR := Lib.hid hr
      have HOK := Lib.hid hok
      generalize w1.heap.size = B1 at *
      clear hb2 hr hok
      go_wp2_with fail
      refine (tof_any N l p c w2 hN (by omega) (HP.out.below HB2.out) hc).mono ?_
      rintro e w3 ⟨hb3, ⟨_, rfl, ht, hz⟩ | ⟨hno, _⟩⟩
      · have HB3 := Lib.hid (below_trans HB2.out hb3)
        have HR := Lib.hid (HR.out.below hb3)
        have HTA := Lib.hid ht
        generalize w2.heap.size = B2 at *
        clear hb3 ht hz
        go_wp2_with fail
        refine (relnew_ok N w3 hN).mono ?_
        rintro e w4 ⟨rfl, hs, hb4⟩
        have HB4 := Lib.hid (below_trans HB3.out hb4)
        have HR := Lib.hid (HR.out.below hb4)
        have HTA := Lib.hid (HTA.out.keep hb4)
        have HS := Lib.hid hs
        generalize w3.heap.size = B3 at *
        clear hb4 hs
        go_wp2_with fail
        refine (relid_any N w4 hN).mono ?_
        rintro e w5 ⟨rfl, hi, hb5⟩
        have HB5 := Lib.hid (below_trans HB4.out hb5)
        have HR := Lib.hid (HR.out.below hb5)
        have HTA := Lib.hid (HTA.out.keep hb5)
        have HS := Lib.hid (HS.out.below hb5)
        have HI := Lib.hid hi
        generalize w4.heap.size = B4 at *
        clear hb5 hi HB1 HB2 HB3 HB4
        have HC1 := relcount_any _ _ N _ w5 HS.out hN
        rw [pr_zeros N N] at HC1
        have HC1 := Lib.hid HC1
        go_wp2_with fail
        refine (HC1.out).mono ?_
        rintro e w6 ⟨rfl, hb6⟩
        have HB6 := Lib.hid (below_trans HB5.out hb6)
        have HR := Lib.hid (HR.out.below hb6)
        have HTA := Lib.hid (HTA.out.keep hb6)
        have HS := Lib.hid (HS.out.below hb6)
        have HI := Lib.hid (HI.out.below hb6)
        clear hb6 HC1 HB5
        simp only [List.length_nil]
        go_wp2_with fail
        refine (relsize_any _ _ N _ w6 HS.out).mono ?_
        rintro e w' ⟨rfl, rfl⟩
        have HC2 := relcount_any _ _ N _ w6 HI.out hN
        rw [pr_id N hN N (Nat.le_refl _)] at HC2
        have HC2 := Lib.hid HC2
        go_wp2_with fail
        refine (HC2.out).mono ?_
        rintro e w7 ⟨rfl, hb7⟩
        have HB7 := Lib.hid (below_trans HB6.out hb7)
        have HR := Lib.hid (HR.out.below hb7)
        have HTA := Lib.hid (HTA.out.keep hb7)
        have HI := Lib.hid (HI.out.below hb7)
        have HT7 := Lib.hid (HT.out.belowS HB7.out)
        have HIS := Lib.hid (is_any _ _ N _ _ _ w7 HR.out HTA.out (says_of hN HOK.out) hN HT7.out)
        clear hb7 HC2 HB6 HS
        by_cases hpos : 0 < N
        · have hpi : (0 : Int) < N := by omega
          have hwm : IntKind.i64.wrap ((N : Int) - 1) = ((N - 1 : Nat) : Int) := (IntWalk.i64_in _ (by omega)).trans (by omega)
          have HH := relhas_any _ _ N _ ((N - 1 : Nat) : Int) ((N - 1 : Nat) : Int) w7 HI.out hN
          rw [hasZ_yes _ _ _ _ (by omega) (by omega), hasB_id N hN N (Nat.le_refl _) (N - 1) (N - 1) (by omega), decide_eq_true rfl, decide_eq_true (show N - 1 < N by omega)] at HH
          have HH := Lib.hid HH
          generalize ((N - 1 : Nat) : Int) = nm at *
          go_wp2_with fail
          refine (HH.out).mono ?_
          rintro e w' ⟨rfl, rfl⟩
          go_wp2_with fail
          refine (HIS.out).mono ?_
          rintro e w8 ⟨rfl, hb8⟩
          have HB8 := Lib.hid (below_trans HB7.out hb8)
          clear hb8
          go_wp2_with fail
          go_ret
          exact ⟨rfl, HB8.out⟩
        · have hpi : ¬ (0 : Int) < N := by omega
          go_wp2_with fail
          refine (HIS.out).mono ?_
          rintro e w8 ⟨rfl, hb8⟩
          have HB8 := Lib.hid (below_trans HB7.out hb8)
          clear hb8
          go_wp2_with fail
          go_ret
          exact ⟨rfl, HB8.out⟩
      · rw [HOK.out] at hno; cases hno
    · have HB2 := Lib.hid (below_trans HB1.out hb2)
      have HNO := Lib.hid hno
      clear hb2 hno
      go_wp2_with fail
      refine (tof_any N l p c w2 hN (by omega) (HP.out.below HB2.out) hc).mono ?_
      rintro e w3 ⟨hb3, ⟨hok, _⟩ | ⟨_, rfl⟩⟩
      · rw [HNO.out] at hok; cases hok
      · have HB3 := Lib.hid (below_trans HB2.out hb3)
        clear hb3 HB1 HB2
        go_wp2_with fail
        refine (relnew_ok N w3 hN).mono ?_
        rintro e w4 ⟨rfl, hs, hb4⟩
        have HB4 := Lib.hid (below_trans HB3.out hb4)
        have HS := Lib.hid hs
        generalize w3.heap.size = B3 at *
        clear hb4 hs HB3
        go_wp2_with fail
        refine (relid_any N w4 hN).mono ?_
        rintro e w5 ⟨rfl, hi, hb5⟩
        have HB5 := Lib.hid (below_trans HB4.out hb5)
        have HS := Lib.hid (HS.out.below hb5)
        have HI := Lib.hid hi
        generalize w4.heap.size = B4 at *
        clear hb5 hi HB4
        have HC1 := relcount_any _ _ N _ w5 HS.out hN
        rw [pr_zeros N N] at HC1
        have HC1 := Lib.hid HC1
        go_wp2_with fail
        refine (HC1.out).mono ?_
        rintro e w6 ⟨rfl, hb6⟩
        have HB6 := Lib.hid (below_trans HB5.out hb6)
        have HS := Lib.hid (HS.out.below hb6)
        have HI := Lib.hid (HI.out.below hb6)
        clear hb6 HC1 HB5
        simp only [List.length_nil]
        go_wp2_with fail
        refine (relsize_any _ _ N _ w6 HS.out).mono ?_
        rintro e w' ⟨rfl, rfl⟩
        have HC2 := relcount_any _ _ N _ w6 HI.out hN
        rw [pr_id N hN N (Nat.le_refl _)] at HC2
        have HC2 := Lib.hid HC2
        go_wp2_with fail
        refine (HC2.out).mono ?_
        rintro e w7 ⟨rfl, hb7⟩
        have HB7 := Lib.hid (below_trans HB6.out hb7)
        have HI := Lib.hid (HI.out.below hb7)
        clear hb7 HC2 HB6 HS
        by_cases hpos : 0 < N
        · have hpi : (0 : Int) < N := by omega
          have hwm : IntKind.i64.wrap ((N : Int) - 1) = ((N - 1 : Nat) : Int) := (IntWalk.i64_in _ (by omega)).trans (by omega)
          have HH := relhas_any _ _ N _ ((N - 1 : Nat) : Int) ((N - 1 : Nat) : Int) w7 HI.out hN
          rw [hasZ_yes _ _ _ _ (by omega) (by omega), hasB_id N hN N (Nat.le_refl _) (N - 1) (N - 1) (by omega), decide_eq_true rfl, decide_eq_true (show N - 1 < N by omega)] at HH
          have HH := Lib.hid HH
          generalize ((N - 1 : Nat) : Int) = nm at *
          go_wp2_with fail
          refine (HH.out).mono ?_
          rintro e w' ⟨rfl, rfl⟩
          go_wp2_with fail
          go_ret
          exact ⟨rfl, HB7.out⟩
        · have hpi : ¬ (0 : Int) < N := by omega
          go_wp2_with fail
          go_ret
          exact ⟨rfl, HB7.out⟩

/-- A world for the witness: the settled one, the table holding what its initialiser lays. -/
noncomputable def laidWorld (os : Os) : World :=
  { World.holding Tryd.prog os ⟨#[], #[], []⟩ with heap := (World.holding Tryd.prog os ⟨#[], #[], []⟩).heap.modify 0 fun
      | .cells _ t frozen => .cells (TABZ.map (Value.int .u8)).toArray t frozen
      | o => o }
theorem laid_met (os : Os) : laidMet Tryd.prog Rows.relMakesRow.laid ((laidWorld os).forCall (fun _ _ => 0) ⟨#[], #[.int .i64 0, .slice none 0 0], []⟩).memory :=
  laidMet_of_run' 8 (by kernel_rfl) (by kernel_rfl)
theorem reads (os : Os) {H : Type} (enc : TypeId × Value → H) : ∃ places, DataW.whole enc Tryd.prog ((laidWorld os).forCall (fun _ _ => 0) ⟨#[], #[.int .i64 0, .slice none 0 0], []⟩).memory Tryd.f6.params.toList Rows.relMakesSpec.vars false (#[.int .i64 0, .slice none 0 0] : Array Value).toList 8 = some ([.lit (.int .i64 0), .nil], [], places) :=
  ⟨[], by kernel_rfl⟩

set_option maxRecDepth 100000 in
theorem lifted (os : Os) (started : os.Started) (H : Type) (enc : TypeId × Value → H) (F : Stop.Interp) :
    ReturnsInHanded {} Tryd.checked os 6 .any ((OpenSpec.ofChange Rows.relMakesSpec).preRow enc Tryd.prog Tryd.f6 Rows.relMakesRow.domain false Rows.relMakesRow.laid) (((OpenSpec.ofChange Rows.relMakesSpec).at F).post enc Tryd.prog Tryd.f6 false true false false) := by
  obtain ⟨places, hx⟩ := reads os enc
  refine returnsInHanded_of_row (C := Tryd.checked) (s := OpenSpec.ofChange Rows.relMakesSpec) own started (by kernel_rfl) Tryd.func6
    (witness_row_at (enc := enc) (C := Tryd.checked) false (laidWorld os) #[.int .i64 0, .slice none 0 0] rfl (by kernel_rfl) (by kernel_rfl) (by kernel_rfl)
      (OpenSpec.preRow_of_cond 8 hx (by kernel_rfl) (fun k hk => by cases hk) (by kernel_rfl) (laid_met os))) ?_
  intro W base args ds gs before hval0 hW _ _ _ hL _ _
  have hT : TabW W := tabW_of hL
  have hval : ∀ (j : Nat) t v, Tryd.f6.params[j]? = some t → args[j]? = some v → Value.okWide Tryd.prog W .any base t v := hval0
  have hW' := hW
  obtain ⟨p, q, hA0, hV, rfl, hfz, hnd⟩ := hW
  have hA : DataW.TrodAll enc Tryd.prog W 0 (fun _ => true) true Tryd.f6.params.toList args.toList ds p := hA0
  rw [Tryd.params6] at hA hval
  obtain ⟨v0, vs0, d0, ds0, p0, q0, hargs, rfl, rfl, h0, r0⟩ := trodAll_cons hA
  obtain ⟨v1, vs1, d1, ds1, p1, q1, rfl, rfl, rfl, h1, r1⟩ := trodAll_cons r0
  obtain ⟨rfl, rfl, rfl⟩ := trodAll_nil r1
  obtain rfl : args = #[v0, v1] := by cases args; simp_all
  obtain ⟨rfl, rfl⟩ := trodVars_none hV
  obtain ⟨a0, rfl, rfl, rfl, w0⟩ := open_int Tryd.underlying3 (hval 0 3 v0 rfl rfl) h0
  have k1 := h1
  have lt1 : ∀ x ∈ p1, x.block < W.heap.size := by obtain ⟨m, hm⟩ := k1; exact DataW.trod_lt m _ _ _ hm
  obtain ⟨pp1, cc1, ll1, rfl, za1, zb1, zc1⟩ := open_pairs (hval 1 22 v1 rfl rfl) h1
  clear hA0 hval0
  refine (walk a0 pp1 cc1 ll1 W w0 za1 zb1 zc1 hT).mono fun e W' ⟨he, bel⟩ => ?_
  subst he
  exact ⟨_, rfl, _, _, _, [], _, [], hW', trodAll_mk1 (shut_bool Tryd.underlying4 _), (trodAll_cons_mk (shut_int Tryd.underlying3 w0) (trodAll_cons_mk (Below.trod laidOut (by kernel_rfl) (of_decide_eq_true (by kernel_rfl)) k1 bel lt1) trodAll_mk0)), rfl, bel.frame _, fun h => by cases h⟩

theorem said : Rows.RelMakesSaid :=
  OpenClaim.holds_of_cond 6 Tryd.f6 rfl rfl rfl rfl rfl rfl rfl ⟨rfl, rfl, rfl, rfl, rfl⟩ rfl rfl rfl rfl rfl (by kernel_rfl) Tryd.func6 (by kernel_rfl)
    (of_decide_eq_true (by kernel_rfl)) (by unfold Func.isWrapper; first | (rw [if_pos (by decide +kernel)]; kernel_rfl) | (rw [if_neg (by decide +kernel)]; exact ⟨rfl, rfl⟩))
    (fun os started H enc _ F => by rw [OpenClaim.pre_eq_preRow]; exact lifted os started H enc F)
/-- No parameter wants a stand-in; the program's own looks are off. -/
theorem plain (f : FuncId) (fn : Func) (hf : Tryd.pinned.checked.prog.funcNamed Rows.relMakesRow.func = some f) (hfn : Tryd.pinned.checked.prog.funcs[f]? = some fn) :
    false = Tryd.pinned.checked.prog.looks [] ∧ ∀ (j : Nat) t, fn.params[j]? = some t → Tryd.pinned.checked.prog.wantsStandIn t = false := by
  obtain rfl : f = 6 := Option.some.inj ((show Tryd.prog.funcNamed Rows.relMakesRow.func = some 6 by kernel_rfl).symm.trans hf) |>.symm
  obtain rfl : fn = Tryd.f6 := (Option.some.inj (Tryd.func6.symm.trans hfn)).symm
  refine ⟨by kernel_rfl, fun j t ht => ?_⟩
  rw [Tryd.params6] at ht
  have hm := Array.mem_of_getElem? ht
  simp at hm
  rcases hm with rfl | rfl
  all_goals exact (show Tryd.prog.wantsStandIn _ = false by kernel_rfl)
/-- The card. -/
theorem proved : Rows.RelMakesCardSaid :=
  Claim7.holds_tied_plain_at .later [] _ _ _ _ said (fun _ h => by cases h) (by kernel_rfl) (fun _ h => by cases h) relMakes_row_tie rfl ⟨rfl, rfl⟩ (by kernel_rfl) rfl plain (by kernel_rfl)
#print axioms proved
end Go.Proofs.YtmiajpoclgdhbaaDoor.relMakes
