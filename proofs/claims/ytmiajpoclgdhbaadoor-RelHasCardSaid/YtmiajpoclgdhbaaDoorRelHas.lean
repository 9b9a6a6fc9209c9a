/- Which pairs a relation has is told; further ones are added, or refused; a copy goes its own way: as the document says, for every input. -/
import Derived.Test.YtmiajpoclgdhbaaDoorCards
import Derived.Test.YtmiajpoclgdhbaaDoorTie
import Derived.Test.YtmiajpoclgdhbaaDoorRows
import Derived.WalkKit
import Derived.ProofKit
import Derived.OpenShut
import Derived.Deep.DeepHandedRow
import Derived.Lib.LaidTab
import Derived.Test.YtmiajpoclgdhbaaDoorBase
import Derived.ShutString
import Derived.ChangeOld
import Derived.Lib.SmallJoins
import Derived.Test.YtmiajpoclgdhbaaDoorRelLaid
import Derived.Test.YtmiajpoclgdhbaaDoorRelSame
import Derived.Deep.RegionHeld
namespace Go.Proofs.YtmiajpoclgdhbaaDoor.relHas
open Go.ChangeShapes Go.WideShapes Go.ChangeAt Go.RowKit
set_option linter.unusedVariables false
set_option linter.unusedSimpArgs false

theorem own : ownKnob Tryd.prog.godebug = none := by kernel_rfl
theorem laidOut : laidOutB Tryd.prog = true := by kernel_rfl

theorem okWide_arr2 {P : Program} {w : World} {r : Reach} {base n : Nat} {t e : TypeId} {v : Value} (ht : P.underlying t = some (.array n e)) (h : Value.okWide P w r base t v) : ∃ cs, v = .agg cs ∧ cs.size = P.cellsOf t := by
  cases v <;> simp [Value.okWide, ht] at h
  exact ⟨_, rfl, by simpa using h.1⟩
theorem open_pair {H : Type} {enc : TypeId × Value → H} {w : World} {base : Nat} {spare : Nat → Bool} {held : Bool} {r : Reach} {b0 : Nat} {v : Value} {d : DataW H} {ps : List MemPlace}
    (hv : Value.okWide Tryd.prog w r b0 51 v) (h : DataW.Trod enc Tryd.prog w base spare held 51 v d ps) : ∃ x y : Int, v = .agg #[.int .i64 x, .int .i64 y] := by
  obtain ⟨cs, rfl, hsz⟩ := okWide_arr2 Tryd.underlying51 hv
  have e2 : Tryd.prog.cellsOf 51 = 2 := by kernel_rfl
  have e1 : Tryd.prog.cellsOf 3 = 1 := by kernel_rfl
  have ho := opens_of h
  change Opens Tryd.prog w 51 cs.toList at ho
  obtain ⟨_, hf⟩ := opens_array Tryd.underlying51 ho
  have f0 := hf 0 (by decide)
  have f1 := hf 1 (by decide)
  rw [e1] at f0 f1
  rw [e2] at hsz
  obtain ⟨y0, y1, hy⟩ := list2' (es := cs.toList) (by simpa using hsz)
  rw [hy] at f0 f1
  simp only [Nat.zero_mul, Nat.one_mul, List.drop_zero, List.drop_succ_cons, List.take_succ_cons, List.take_zero] at f0 f1
  obtain ⟨x, g0, _⟩ := opens_int Tryd.underlying3 f0
  obtain ⟨y, g1, _⟩ := opens_int Tryd.underlying3 f1
  injection g0 with g0
  injection g1 with g1
  subst g0 g1
  exact ⟨x, y, by congr 1; exact Array.toList_inj.1 hy⟩

theorem addP_same (n : Nat) (ws : List Nat) (a b : Nat) (hl : ws.length = 2 * n) (ha : a < n) (hb : b < 128) : sameW n n ws (addP ws a b) = hasB ws a b := by
  by_cases h : hasB ws a b = true
  · rw [h]
    refine same_of hl (by rw [addP_len]; exact hl) fun j hj => ?_
    unfold addP
    rw [setW_getD _ _ _ _ (by omega)]
    split
    · rename_i e
      subst e
      unfold hasB at h
      apply Nat.eq_of_testBit_eq
      intro i
      rw [Nat.testBit_or, Nat.testBit_two_pow]
      by_cases e : b % 64 = i
      · subst e; rw [h]; simp
      · rw [decide_eq_false e]; simp
    · rfl
  · have h2 : hasB ws a b = false := by simpa using h
    rw [h2]
    refine same_not (j := 2 * a + b / 64) fun e => ?_
    unfold addP at e
    rw [setW_getD _ _ _ _ (by omega), if_pos rfl] at e
    unfold hasB at h2
    rw [e, Nat.testBit_or, Nat.testBit_two_pow] at h2
    simp at h2
theorem same_self (n : Nat) (ws : List Nat) : sameW n n ws ws = true := by unfold sameW; simp

set_option maxRecDepth 100000 in
set_option maxHeartbeats 3200000 in
theorem walk (n : Int) (p : Option Addr) (c : Nat) (l : List (Int × Int)) (x y : Int) (w : World) (_ : (Lit.int .i64 n).wf = true) (hl : l.length ≤ 9223372036854775807) (hc : l.length ≤ c) (hp : Rds w 2 p l.length (pairCells l)) (hT : TabW w) :
    Calls Tryd.prog 7 #[.int .i64 n, .slice p l.length c, .agg #[.int .i64 x, .int .i64 y]] w fun e w' => e = .returned (.bool true) ∧ Below w.heap.size w w' := by
  have HB0 := Lib.hid (below_alloc (Below.refl w.heap.size w) (.cells #[.int .i64 x, .int .i64 y] 51))
  have HX := Lib.hid (show Blk (w.alloc (.cells #[.int .i64 x, .int .i64 y] 51)) 51 w.heap.size [.int .i64 x, .int .i64 y] from Blk.new _ _ _)
  have HP := Lib.hid (hp.below HB0.out)
  have HT := Lib.hid (hT.belowS HB0.out)
  have HA := Lib.hid (awake_any _ HT.out)
  clear hp hT
  go_enter Tryd.func7, Tryd.ntmps7
  go_wp2_with fail
  obtain ⟨w0, hw0⟩ : ∃ w0, w0 = w.alloc (.cells #[.int .i64 x, .int .i64 y] 51) := ⟨_, rfl⟩
  rw [← hw0] at HB0 HX HP HT HA ⊢
  have hxl : w.heap.size < w0.heap.size := by rw [hw0]; simp
  clear hw0
  refine (HA.out).mono ?_
  rintro e w1 ⟨rfl, hb1⟩
  have HB := Lib.hid (below_trans HB0.out (hb1.mono HB0.out.size |> fun _ => hb1))
  have HX := Lib.hid (HX.out.below hb1)
  have HT := Lib.hid (HT.out.belowS hb1)
  have HBO := Lib.hid (both_any n l p c w1 hl (HP.out.below hb1) hc)
  have hz1 := hb1.size
  clear hb1 HA HB0
  go_wp2_with fail
  refine (HBO.out).mono ?_
  rintro e w2 ⟨hb2, ⟨hbad, rfl⟩ | ⟨hok, N, t, h, g, rfl, hN, ht, hg, hh, rfl, hta, hr⟩⟩
  · have HB2 := Lib.hid (below_trans HB.out hb2)
    clear hb2 hbad HBO
    go_wp2_with fail
    go_ret
    exact ⟨rfl, HB2.out⟩
  · have HB2 := Lib.hid (below_trans HB.out hb2)
    have HLO := Lib.hid (show l.all (okP N) = true from by
      unfold bothOk at hok
      rw [Bool.and_eq_true] at hok
      simpa using hok.2)
    have HX := Lib.hid (HX.out.below hb2)
    have HT := Lib.hid (HT.out.belowS hb2)
    have HTA := Lib.hid hta
    have HR := Lib.hid hr
    have hz2 := hb2.size
    clear hb2 hok HBO hta hr
    go_wp2_with fail
    refine (relcopy_any h g N _ w2 HR.out (by omega)).mono ?_
    rintro e w3 ⟨h3, g3, hh3, hg3, rfl, hr3, hb3⟩
    have HB3 := Lib.hid (below_trans HB2.out hb3)
    have HX := Lib.hid (HX.out.below hb3)
    have HT := Lib.hid (HT.out.belowS hb3)
    have HTA := Lib.hid (HTA.out.keep hb3)
    have HGH := Lib.hid (show h < w2.heap.size ∧ g < w2.heap.size from ⟨HR.out.hlt, HR.out.glt⟩)
    have HR := Lib.hid (HR.out.below hb3)
    have HC := Lib.hid hr3
    clear hb3 hr3 HB2
    have x0 : w3.cell? ⟨w.heap.size, 0, none⟩ = some (.int .i64 x) := HX.out.cell 0
    have x1 : w3.cell? ⟨w.heap.size, 1, none⟩ = some (.int .i64 y) := HX.out.cell 1
    have HH := relhas_any h g N _ x y (w3.drewN 1) (HR.out.dn 1) (by omega)
    rw [hasZ_of N (by omega) l HLO.out] at HH
    have HH := Lib.hid HH
    have HTH := Lib.hid (thas_any t N (inL l) x y (w3.drewN 1) (HTA.out.dn 1))
    have HSM := relsame_any h3 g3 N h g N _ _ (w3.drewN 1) (HC.out.dn 1) (HR.out.dn 1) (by omega) (by omega)
    rw [same_self] at HSM
    have HSM := Lib.hid HSM
    have HIN := Lib.hid (show (0 ≤ x ∧ x < N ∧ 0 ≤ y ∧ y < N) ∨ tabZ (inL l) N x y = false from by
      by_cases q : 0 ≤ x ∧ x < N ∧ 0 ≤ y ∧ y < N
      · exact .inl q
      · exact .inr (tabZ_no _ _ _ _ q))
    generalize tabZ (inL l) N x y = tz at *
    go_wp2_with fail
    go_region_held (fun w' => w'.cell? ⟨w.heap.size, 0, none⟩ = some (.int .i64 x) ∧ w'.cell? ⟨w.heap.size, 1, none⟩ = some (.int .i64 y))
      (first | exact ⟨x0, x1⟩ | exact ⟨cell_below (w := w3.drewN 1) x0 hb, cell_below (w := w3.drewN 1) x1 hb⟩)
      (first | (go_at_call 32; refine (HH.out).mono ?_; rintro e w' ⟨rfl, rfl⟩) | (go_at_call 15; refine (HTH.out).mono ?_; rintro e w'' ⟨rfl, rfl⟩) | (go_at_call 25; refine (HSM.out).mono ?_; rintro e w4 ⟨rfl, hb⟩))
    have hb4 : Below w3.heap.size w3 w4 := ⟨hb.os, hb.tape, hb.output, hb.size, hb.block⟩
    have HB4 := Lib.hid (below_trans HB3.out hb4)
    have HX := Lib.hid (HX.out.below hb4)
    have HT := Lib.hid (HT.out.belowS hb4)
    have HTA := Lib.hid (HTA.out.keep hb4)
    have HR := Lib.hid (HR.out.below hb4)
    have HC := Lib.hid (HC.out.below hb4)
    have hgg := HGH.out
    clear hb hb4 HB3 HH HTH HSM x0 x1
    have x0 : w4.cell? ⟨w.heap.size, 0, none⟩ = some (.int .i64 x) := HX.out.cell 0
    have x1 : w4.cell? ⟨w.heap.size, 1, none⟩ = some (.int .i64 y) := HX.out.cell 1
    by_cases hin : 0 ≤ x ∧ x < N ∧ 0 ≤ y ∧ y < N
    · obtain ⟨i0, i1, i2, i3⟩ := hin
      obtain ⟨a, rfl⟩ := Int.eq_ofNat_of_zero_le i0
      obtain ⟨b, rfl⟩ := Int.eq_ofNat_of_zero_le i2
      have ha : a < N := by omega
      have hb : b < N := by omega
      have HADD := Lib.hid (reladd_ok h g N a b _ w4 HR.out (by omega) ha hb)
      clear HIN
      go_wp2_with fail
      refine (HADD.out).mono ?_
      rintro e w5 ⟨rfl, hr5, hg5⟩
      have HB5 := Lib.hid (HB4.out.grown hg5 HB4.out.size (fun k hk => by injection hk with hk; omega))
      have HX := Lib.hid (HX.out.kept hg5 (by simp; omega))
      have HT := Lib.hid (HT.out.kept hg5 (by omega))
      have HTA := Lib.hid (HTA.out.kept hg5 (by omega))
      have HC := Lib.hid (HC.out.kept hg5 (by simp; omega) (by simp; omega))
      have HR := Lib.hid hr5
      clear hr5 hg5 HB4 HADD x0 x1
      have x0 : w5.cell? ⟨w.heap.size, 0, none⟩ = some (.int .i64 (a : Int)) := HX.out.cell 0
      have x1 : w5.cell? ⟨w.heap.size, 1, none⟩ = some (.int .i64 (b : Int)) := HX.out.cell 1
      have HIS := Lib.hid (is_any h3 g3 N t _ _ w5 HC.out HTA.out (says_of (by omega) HLO.out) (by omega) HT.out)
      go_wp2_with fail
      refine (HIS.out).mono ?_
      rintro e w6 ⟨rfl, hb6⟩
      have HB6 := Lib.hid (below_trans HB5.out hb6)
      have HX := Lib.hid (HX.out.below hb6)
      have HTA := Lib.hid (HTA.out.keep hb6)
      have HR := Lib.hid (HR.out.below hb6)
      have HC := Lib.hid (HC.out.below hb6)
      clear hb6 HB5 HIS x0 x1 HT
      have x0 : w6.cell? ⟨w.heap.size, 0, none⟩ = some (.int .i64 (a : Int)) := HX.out.cell 0
      have x1 : w6.cell? ⟨w.heap.size, 1, none⟩ = some (.int .i64 (b : Int)) := HX.out.cell 1
      have y0 := HTA.out.outer ha
      have y1 := HTA.out.mark ha hb
      have HH := relhas_any h g N _ (a : Int) (b : Int) (w6.drewN 1) (HR.out.dn 1) (by omega)
      rw [hasZ_yes _ _ _ _ ha hb, hasB_addP (ofW N l) N a b a b (ofTo_len N l) ha (by omega) (by omega), decide_eq_true rfl, decide_eq_true rfl, Bool.and_true, Bool.or_true] at HH
      have HH := Lib.hid HH
      have HSM := relsame_any h3 g3 N h g N _ _ (w6.drewN 1) (HC.out.dn 1) (HR.out.dn 1) (by omega) (by omega)
      rw [addP_same N (ofW N l) a b (ofTo_len N l) ha (by omega), hasB_of N (by omega) l HLO.out a b (by omega)] at HSM
      have HSM := Lib.hid HSM
      generalize inL l a b = z at *
      go_wp2_with fail
      go_region_held (fun w' => w'.cell? ⟨w.heap.size, 0, none⟩ = some (.int .i64 (a : Int)) ∧ w'.cell? ⟨w.heap.size, 1, none⟩ = some (.int .i64 (b : Int)) ∧ w'.cell? ⟨t, a, none⟩ = some (.slice (some ⟨t + 1 + a, 0, none⟩) N N) ∧ w'.cell? ⟨t + 1 + a, b, none⟩ = some (.bool z))
        (first | exact ⟨x0, x1, y0, y1⟩ | exact ⟨cell_below (w := w6.drewN 1) x0 hb7, cell_below (w := w6.drewN 1) x1 hb7, cell_below (w := w6.drewN 1) y0 hb7, cell_below (w := w6.drewN 1) y1 hb7⟩)
        (first | (go_at_call 32; refine (HH.out).mono ?_; rintro e w' ⟨rfl, rfl⟩) | (go_at_call 25; refine (HSM.out).mono ?_; rintro e w7 ⟨rfl, hb7⟩))
      have HB7 := Lib.hid (show Below w.heap.size w w7 from below_trans HB6.out ⟨hb7.os, hb7.tape, hb7.output, hb7.size, hb7.block⟩)
      clear hb7
      go_wp2_with fail
      go_ret
      exact ⟨by simp, HB7.out⟩
    · have HADD := Lib.hid (reladd_bad h g N x y _ w4 HR.out (by omega) hin)
      have htz : tz = false := by rcases HIN.out with q | q; · exact absurd q hin
                                  · exact q
      subst htz
      clear HIN
      have hq : x < 0 ∨ (0 ≤ x ∧ y < 0) ∨ (0 ≤ x ∧ 0 ≤ y ∧ (N : Int) ≤ x) ∨ (0 ≤ x ∧ 0 ≤ y ∧ x < N ∧ (N : Int) ≤ y) := by omega
      rcases hq with j0 | ⟨j0, j1⟩ | ⟨j0, j1, j2⟩ | ⟨j0, j1, j2, j3⟩
      all_goals
        try have jd : decide (y < (N : Int)) = false := decide_eq_false (by omega)
        clear hin
        go_wp2_with fail
        refine (HADD.out).mono ?_
        rintro e w5 ⟨rfl, rfl⟩
        have HIS := Lib.hid (is_any h3 g3 N t _ _ w4 HC.out HTA.out (says_of (by omega) HLO.out) (by omega) HT.out)
        go_wp2_with fail
        refine (HIS.out).mono ?_
        rintro e w6 ⟨rfl, hb6⟩
        have HB6 := Lib.hid (below_trans HB4.out hb6)
        have HX := Lib.hid (HX.out.below hb6)
        have HR := Lib.hid (HR.out.below hb6)
        have HC := Lib.hid (HC.out.below hb6)
        clear hb6 HB4 HIS x0 x1 HT HADD
        have x0 : w6.cell? ⟨w.heap.size, 0, none⟩ = some (.int .i64 x) := HX.out.cell 0
        have x1 : w6.cell? ⟨w.heap.size, 1, none⟩ = some (.int .i64 y) := HX.out.cell 1
        have HH := relhas_any h g N _ x y (w6.drewN 1) (HR.out.dn 1) (by omega)
        rw [hasZ_no _ _ _ _ (by omega)] at HH
        have HH := Lib.hid HH
        have HSM := relsame_any h3 g3 N h g N _ _ (w6.drewN 1) (HC.out.dn 1) (HR.out.dn 1) (by omega) (by omega)
        rw [same_self] at HSM
        have HSM := Lib.hid HSM
        go_wp2_with fail
        refine wp_region_held_drew (S := (fun w' => w'.cell? ⟨w.heap.size, 0, none⟩ = some (.int .i64 x) ∧ w'.cell? ⟨w.heap.size, 1, none⟩ = some (.int .i64 y))) (by kernel_rfl) (by (try dsimp only); first | exact ⟨x0, x1⟩ | exact ⟨cell_below (w := w6.drewN 1) x0 hb7, cell_below (w := w6.drewN 1) x1 hb7⟩) (fun hHeld => ?_)
        refine wpAnyH_take (i := 0) (oi := ⟨some 87, _, _, _, _, _⟩) (v := ?_) rfl (by kernel_rfl) (by kernel_rfl) (by kernel_rfl) (fun _ _ _ h => h) (Or.inl ⟨by rfl, ?_⟩) (by assumption) ?_
        rotate_left
        · (intro w hSw; (try dsimp only at hSw); go_simp; try with_reducible rfl)
        simp only [Act.put, List.setIfInBounds_toArray, List.set_cons_zero, List.set_cons_succ]
        refine wpAnyH_take (i := 1) (oi := ⟨some 88, _, _, _, _, _⟩) (v := ?_) rfl (by kernel_rfl) (by kernel_rfl) (by kernel_rfl) (fun _ _ _ h => h) (Or.inl ⟨by rfl, ?_⟩) (by assumption) ?_
        rotate_left
        · (intro w hSw; (try dsimp only at hSw); go_simp; try with_reducible rfl)
        simp only [Act.put, List.setIfInBounds_toArray, List.set_cons_zero, List.set_cons_succ]
        refine wpAnyH_take (i := 2) (oi := ⟨some 89, _, _, _, _, _⟩) (v := ?_) rfl (by kernel_rfl) (by kernel_rfl) (by kernel_rfl) (fun _ _ _ h => h) (Or.inl ⟨by rfl, ?_⟩) (by assumption) ?_
        rotate_left
        · (intro w hSw; (try dsimp only at hSw); go_simp; try with_reducible rfl)
        simp only [Act.put, List.setIfInBounds_toArray, List.set_cons_zero, List.set_cons_succ]
        refine wpAnyH_take (i := 3) (oi := ⟨some 90, _, _, _, _, _⟩) (v := ?_) rfl (by kernel_rfl) (by kernel_rfl) (by kernel_rfl) (fun _ _ _ h => h) (Or.inl ⟨by rfl, ?_⟩) (by assumption) ?_
        rotate_left
        · (intro w hSw; (try dsimp only at hSw); go_simp; try with_reducible rfl)
        simp only [Act.put, List.setIfInBounds_toArray, List.set_cons_zero, List.set_cons_succ]
        refine wpAnyH_take (i := 4) (oi := ⟨some 91, _, _, _, _, _⟩) (v := ?_) rfl (by kernel_rfl) (by kernel_rfl) (by kernel_rfl) (fun _ _ _ h => h) (Or.inl ⟨by rfl, ?_⟩) (by assumption) ?_
        rotate_left
        · (intro w hSw; (try dsimp only at hSw); go_simp; try with_reducible rfl)
        simp only [Act.put, List.setIfInBounds_toArray, List.set_cons_zero, List.set_cons_succ]
        refine wpAnyH_take (i := 6) (oi := ⟨some 93, _, _, _, _, _⟩) (v := ?_) rfl (by kernel_rfl) (by kernel_rfl) (by kernel_rfl) (fun _ _ _ h => h) (Or.inl ⟨by rfl, ?_⟩) (by assumption) ?_
        rotate_left
        · (intro w hSw; (try dsimp only at hSw); go_simp; try with_reducible rfl)
        simp only [Act.put, List.setIfInBounds_toArray, List.set_cons_zero, List.set_cons_succ]
        refine wpAnyH_ready (rs := [5]) (by kernel_rfl) (by simp) ?_
        refine AllReadyH.cons (o := ⟨some 92, _, _, _, _, _⟩) rfl (fun K hK => ?_) AllReadyH.nil
        go_simp
        go_at_call 32; refine (HH.out).mono ?_; rintro e w' ⟨rfl, rfl⟩
        refine hK.out _ _ (by (try dsimp only); first | exact ⟨x0, x1⟩ | exact ⟨cell_below (w := w6.drewN 1) x0 hb7, cell_below (w := w6.drewN 1) x1 hb7⟩) ?_
        clear hK K hHeld
        intro hHeld
        try simp only [Act.put, List.setIfInBounds_toArray, List.set_cons_zero, List.set_cons_succ]
        refine wpAnyH_take (i := 7) (oi := ⟨some 94, _, _, _, _, _⟩) (v := ?_) rfl (by kernel_rfl) (by kernel_rfl) (by kernel_rfl) (fun _ _ _ h => h) (Or.inl ⟨by rfl, ?_⟩) (by assumption) ?_
        rotate_left
        · (intro w hSw; (try dsimp only at hSw); go_simp; try with_reducible rfl)
        simp only [Act.put, List.setIfInBounds_toArray, List.set_cons_zero, List.set_cons_succ]
        refine wpAnyH_take (i := 8) (oi := ⟨some 95, _, _, _, _, _⟩) (v := ?_) rfl (by kernel_rfl) (by kernel_rfl) (by kernel_rfl) (fun _ _ _ h => h) (Or.inl ⟨by rfl, ?_⟩) (by assumption) ?_
        rotate_left
        · (intro w hSw; (try dsimp only at hSw); go_simp; try with_reducible rfl)
        simp only [Act.put, List.setIfInBounds_toArray, List.set_cons_zero, List.set_cons_succ]
        refine wpAnyH_take (i := 9) (oi := ⟨some 96, _, _, _, _, _⟩) (v := ?_) rfl (by kernel_rfl) (by kernel_rfl) (by kernel_rfl) (fun _ _ _ h => h) (Or.inl ⟨by rfl, ?_⟩) (by assumption) ?_
        rotate_left
        · (intro w hSw; (try dsimp only at hSw); go_simp; try with_reducible rfl)
        simp only [Act.put, List.setIfInBounds_toArray, List.set_cons_zero, List.set_cons_succ]
        refine wpAnyH_take (i := 10) (oi := ⟨some 97, _, _, _, _, _⟩) (v := ?_) rfl (by kernel_rfl) (by kernel_rfl) (by kernel_rfl) (fun _ _ _ h => h) (Or.inl ⟨by rfl, ?_⟩) (by assumption) ?_
        rotate_left
        · (intro w hSw; (try dsimp only at hSw); go_simp; try with_reducible rfl)
        simp only [Act.put, List.setIfInBounds_toArray, List.set_cons_zero, List.set_cons_succ]
        refine wpAnyH_take (i := 12) (oi := ⟨some 99, _, _, _, _, _⟩) (v := ?_) rfl (by kernel_rfl) (by kernel_rfl) (by kernel_rfl) (fun _ _ _ h => h) (Or.inl ⟨by rfl, ?_⟩) (by assumption) ?_
        rotate_left
        · (intro w hSw; (try dsimp only at hSw); go_simp; try with_reducible rfl)
        simp only [Act.put, List.setIfInBounds_toArray, List.set_cons_zero, List.set_cons_succ]
        refine wpAnyH_take (i := 13) (oi := ⟨some 100, _, _, _, _, _⟩) (v := ?_) rfl (by kernel_rfl) (by kernel_rfl) (by kernel_rfl) (fun _ _ _ h => h) (Or.inl ⟨by rfl, ?_⟩) (by assumption) ?_
        rotate_left
        · (intro w hSw; (try dsimp only at hSw); go_simp; try with_reducible rfl)
        simp only [Act.put, List.setIfInBounds_toArray, List.set_cons_zero, List.set_cons_succ]
        refine wpAnyH_ready (rs := [11]) (by kernel_rfl) (by simp) ?_
        refine AllReadyH.cons (o := ⟨some 98, _, _, _, _, _⟩) rfl (fun K hK => ?_) AllReadyH.nil
        go_simp
        go_at_call 25; refine (HSM.out).mono ?_; rintro e w7 ⟨rfl, hb7⟩
        refine hK.out _ _ (by (try dsimp only); first | exact ⟨x0, x1⟩ | exact ⟨cell_below (w := w6.drewN 1) x0 hb7, cell_below (w := w6.drewN 1) x1 hb7⟩) ?_
        clear hK K hHeld
        intro hHeld
        try simp only [Act.put, List.setIfInBounds_toArray, List.set_cons_zero, List.set_cons_succ]
        refine wpAnyH_take (i := 14) (oi := ⟨some 101, _, _, _, _, _⟩) (v := ?_) rfl (by kernel_rfl) (by kernel_rfl) (by kernel_rfl) (fun _ _ _ h => h) (Or.inl ⟨by rfl, ?_⟩) (by assumption) ?_
        rotate_left
        · (intro w hSw; (try dsimp only at hSw); go_simp; try with_reducible rfl)
        simp only [Act.put, List.setIfInBounds_toArray, List.set_cons_zero, List.set_cons_succ]
        refine wpAnyH_take (i := 15) (oi := ⟨some 102, _, _, _, _, _⟩) (v := undef) rfl (by kernel_rfl) (by kernel_rfl) (by kernel_rfl) (fun _ _ _ h => h) (Or.inr ⟨by rfl, rfl⟩) (by assumption) ?_
        simp only [Act.put, List.setIfInBounds_toArray, List.set_cons_zero, List.set_cons_succ]
        refine wpAnyH_take (i := 16) (oi := ⟨some 103, _, _, _, _, _⟩) (v := undef) rfl (by kernel_rfl) (by kernel_rfl) (by kernel_rfl) (fun _ _ _ h => h) (Or.inr ⟨by rfl, rfl⟩) (by assumption) ?_
        simp only [Act.put, List.setIfInBounds_toArray, List.set_cons_zero, List.set_cons_succ]
        refine wpAnyH_take (i := 17) (oi := ⟨some 104, _, _, _, _, _⟩) (v := undef) rfl (by kernel_rfl) (by kernel_rfl) (by kernel_rfl) (fun _ _ _ h => h) (Or.inr ⟨by rfl, rfl⟩) (by assumption) ?_
        simp only [Act.put, List.setIfInBounds_toArray, List.set_cons_zero, List.set_cons_succ]
        refine wpAnyH_take (i := 18) (oi := ⟨some 105, _, _, _, _, _⟩) (v := undef) rfl (by kernel_rfl) (by kernel_rfl) (by kernel_rfl) (fun _ _ _ h => h) (Or.inr ⟨by rfl, rfl⟩) (by assumption) ?_
        simp only [Act.put, List.setIfInBounds_toArray, List.set_cons_zero, List.set_cons_succ]
        refine wpAnyH_take (i := 19) (oi := ⟨some 106, _, _, _, _, _⟩) (v := undef) rfl (by kernel_rfl) (by kernel_rfl) (by kernel_rfl) (fun _ _ _ h => h) (Or.inr ⟨by rfl, rfl⟩) (by assumption) ?_
        simp only [Act.put, List.setIfInBounds_toArray, List.set_cons_zero, List.set_cons_succ]
        refine wpAnyH_take (i := 20) (oi := ⟨some 107, _, _, _, _, _⟩) (v := undef) rfl (by kernel_rfl) (by kernel_rfl) (by kernel_rfl) (fun _ _ _ h => h) (Or.inr ⟨by rfl, rfl⟩) (by assumption) ?_
        simp only [Act.put, List.setIfInBounds_toArray, List.set_cons_zero, List.set_cons_succ]
        refine wpAnyH_take (i := 21) (oi := ⟨some 108, _, _, _, _, _⟩) (v := undef) rfl (by kernel_rfl) (by kernel_rfl) (by kernel_rfl) (fun _ _ _ h => h) (Or.inr ⟨by rfl, rfl⟩) (by assumption) ?_
        simp only [Act.put, List.setIfInBounds_toArray, List.set_cons_zero, List.set_cons_succ]
        refine wpAnyH_take (i := 22) (oi := ⟨some 109, _, _, _, _, _⟩) (v := undef) rfl (by kernel_rfl) (by kernel_rfl) (by kernel_rfl) (fun _ _ _ h => h) (Or.inr ⟨by rfl, rfl⟩) (by assumption) ?_
        simp only [Act.put, List.setIfInBounds_toArray, List.set_cons_zero, List.set_cons_succ]
        refine wpAnyH_take (i := 23) (oi := ⟨some 110, _, _, _, _, _⟩) (v := undef) rfl (by kernel_rfl) (by kernel_rfl) (by kernel_rfl) (fun _ _ _ h => h) (Or.inr ⟨by rfl, rfl⟩) (by assumption) ?_
        simp only [Act.put, List.setIfInBounds_toArray, List.set_cons_zero, List.set_cons_succ]
        refine wpAnyH_take (i := 24) (oi := ⟨some 111, _, _, _, _, _⟩) (v := ?_) rfl (by kernel_rfl) (by kernel_rfl) (by kernel_rfl) (fun _ _ _ h => h) (Or.inl ⟨by rfl, ?_⟩) (by assumption) ?_
        rotate_left
        · (intro w hSw; (try dsimp only at hSw); go_simp; try with_reducible rfl)
        simp only [Act.put, List.setIfInBounds_toArray, List.set_cons_zero, List.set_cons_succ]
        refine wpAnyH_take (i := 25) (oi := ⟨some 112, _, _, _, _, _⟩) (v := ?_) rfl (by kernel_rfl) (by kernel_rfl) (by kernel_rfl) (fun _ _ _ h => h) (Or.inl ⟨by rfl, ?_⟩) (by assumption) ?_
        rotate_left
        · (intro w hSw; (try dsimp only at hSw); go_simp; try with_reducible rfl)
        simp only [Act.put, List.setIfInBounds_toArray, List.set_cons_zero, List.set_cons_succ]
        refine wpAnyH_take (i := 26) (oi := ⟨some 113, _, _, _, _, _⟩) (v := ?_) rfl (by kernel_rfl) (by kernel_rfl) (by kernel_rfl) (fun _ _ _ h => h) (Or.inl ⟨by rfl, ?_⟩) (by assumption) ?_
        rotate_left
        · (intro w hSw; (try dsimp only at hSw); go_simp; try with_reducible rfl)
        simp only [Act.put, List.setIfInBounds_toArray, List.set_cons_zero, List.set_cons_succ]
        refine wpAnyH_take (i := 27) (oi := ⟨some 6, _, _, _, _, _⟩) (v := ?_) rfl (by kernel_rfl) (by kernel_rfl) (by kernel_rfl) (fun _ _ _ h => h) (Or.inl ⟨by rfl, ?_⟩) (by assumption) ?_
        rotate_left
        · (intro w hSw; (try dsimp only at hSw); go_simp; try with_reducible rfl)
        simp only [Act.put, List.setIfInBounds_toArray, List.set_cons_zero, List.set_cons_succ]
        refine wpAnyH_done (by kernel_rfl) ?_ _
        have HB7 := Lib.hid (show Below w.heap.size w w7 from below_trans HB6.out ⟨hb7.os, hb7.tape, hb7.output, hb7.size, hb7.block⟩)
        clear hb7
        go_wp2_with fail
        go_ret
        exact ⟨rfl, HB7.out⟩

/-- A world for the witness: the settled one, the table holding what its initialiser lays. -/
noncomputable def laidWorld (os : Os) : World :=
  { World.holding Tryd.prog os ⟨#[], #[], []⟩ with heap := (World.holding Tryd.prog os ⟨#[], #[], []⟩).heap.modify 0 fun
      | .cells _ t frozen => .cells (TABZ.map (Value.int .u8)).toArray t frozen
      | o => o }
theorem laid_met (os : Os) : laidMet Tryd.prog Rows.relHasRow.laid ((laidWorld os).forCall (fun _ _ => 0) ⟨#[], #[.int .i64 0, .slice none 0 0, .agg #[.int .i64 0, .int .i64 0]], []⟩).memory :=
  laidMet_of_run' 8 (by kernel_rfl) (by kernel_rfl)
theorem reads (os : Os) {H : Type} (enc : TypeId × Value → H) : ∃ places, DataW.whole enc Tryd.prog ((laidWorld os).forCall (fun _ _ => 0) ⟨#[], #[.int .i64 0, .slice none 0 0, .agg #[.int .i64 0, .int .i64 0]], []⟩).memory Tryd.f7.params.toList Rows.relHasSpec.vars false (#[.int .i64 0, .slice none 0 0, .agg #[.int .i64 0, .int .i64 0]] : Array Value).toList 8 = some ([.lit (.int .i64 0), .nil, .agg [.lit (.int .i64 0), .lit (.int .i64 0)]], [], places) :=
  ⟨[], by kernel_rfl⟩

set_option maxRecDepth 100000 in
theorem lifted (os : Os) (started : os.Started) (H : Type) (enc : TypeId × Value → H) (F : Stop.Interp) :
    ReturnsInHanded {} Tryd.checked os 7 .any ((OpenSpec.ofChange Rows.relHasSpec).preRow enc Tryd.prog Tryd.f7 Rows.relHasRow.domain false Rows.relHasRow.laid) (((OpenSpec.ofChange Rows.relHasSpec).at F).post enc Tryd.prog Tryd.f7 false true false false) := by
  obtain ⟨places, hx⟩ := reads os enc
  refine returnsInHanded_of_row (C := Tryd.checked) (s := OpenSpec.ofChange Rows.relHasSpec) own started (by kernel_rfl) Tryd.func7
    (witness_row_at (enc := enc) (C := Tryd.checked) false (laidWorld os) #[.int .i64 0, .slice none 0 0, .agg #[.int .i64 0, .int .i64 0]] rfl (by kernel_rfl) (by kernel_rfl) (by kernel_rfl)
      (OpenSpec.preRow_of_cond 8 hx (by kernel_rfl) (fun k hk => by cases hk) (by kernel_rfl) (laid_met os))) ?_
  intro W base args ds gs before hval0 hW _ _ _ hL _ _
  have hT : TabW W := tabW_of hL
  have hval : ∀ (j : Nat) t v, Tryd.f7.params[j]? = some t → args[j]? = some v → Value.okWide Tryd.prog W .any base t v := hval0
  have hW' := hW
  obtain ⟨p, q, hA0, hV, rfl, hfz, hnd⟩ := hW
  have hA : DataW.TrodAll enc Tryd.prog W 0 (fun _ => true) true Tryd.f7.params.toList args.toList ds p := hA0
  rw [Tryd.params7] at hA hval
  obtain ⟨v0, vs0, d0, ds0, p0, q0, hargs, rfl, rfl, h0, r0⟩ := trodAll_cons hA
  obtain ⟨v1, vs1, d1, ds1, p1, q1, rfl, rfl, rfl, h1, r1⟩ := trodAll_cons r0
  obtain ⟨v2, vs2, d2, ds2, p2, q2, rfl, rfl, rfl, h2, r2⟩ := trodAll_cons r1
  obtain ⟨rfl, rfl, rfl⟩ := trodAll_nil r2
  obtain rfl : args = #[v0, v1, v2] := by cases args; simp_all
  obtain ⟨rfl, rfl⟩ := trodVars_none hV
  obtain ⟨a0, rfl, rfl, rfl, w0⟩ := open_int Tryd.underlying3 (hval 0 3 v0 rfl rfl) h0
  have k1 := h1
  have lt1 : ∀ x ∈ p1, x.block < W.heap.size := by obtain ⟨m, hm⟩ := k1; exact DataW.trod_lt m _ _ _ hm
  obtain ⟨pp1, cc1, ll1, rfl, za1, zb1, zc1⟩ := open_pairs (hval 1 22 v1 rfl rfl) h1
  have k2 := h2
  have lt2 : ∀ x ∈ p2, x.block < W.heap.size := by obtain ⟨m, hm⟩ := k2; exact DataW.trod_lt m _ _ _ hm
  obtain ⟨a2, b2, rfl⟩ := open_pair (hval 2 51 v2 rfl rfl) h2
  clear hA0 hval0
  refine (walk a0 pp1 cc1 ll1 a2 b2 W w0 za1 zb1 zc1 hT).mono fun e W' ⟨he, bel⟩ => ?_
  subst he
  exact ⟨_, rfl, _, _, _, [], _, [], hW', trodAll_mk1 (shut_bool Tryd.underlying4 _), (trodAll_cons_mk (shut_int Tryd.underlying3 w0) (trodAll_cons_mk (Below.trod laidOut (by kernel_rfl) (of_decide_eq_true (by kernel_rfl)) k1 bel lt1) (trodAll_cons_mk (Below.trod laidOut (by kernel_rfl) (of_decide_eq_true (by kernel_rfl)) k2 bel lt2) trodAll_mk0))), rfl, bel.frame _, fun h => by cases h⟩

theorem said : Rows.RelHasSaid :=
  OpenClaim.holds_of_cond 7 Tryd.f7 rfl rfl rfl rfl rfl rfl rfl ⟨rfl, rfl, rfl, rfl, rfl⟩ rfl rfl rfl rfl rfl (by kernel_rfl) Tryd.func7 (by kernel_rfl)
    (of_decide_eq_true (by kernel_rfl)) (by unfold Func.isWrapper; first | (rw [if_pos (by decide +kernel)]; kernel_rfl) | (rw [if_neg (by decide +kernel)]; exact ⟨rfl, rfl⟩))
    (fun os started H enc _ F => by rw [OpenClaim.pre_eq_preRow]; exact lifted os started H enc F)
/-- No parameter wants a stand-in; the program's own looks are off. -/
theorem plain (f : FuncId) (fn : Func) (hf : Tryd.pinned.checked.prog.funcNamed Rows.relHasRow.func = some f) (hfn : Tryd.pinned.checked.prog.funcs[f]? = some fn) :
    false = Tryd.pinned.checked.prog.looks [] ∧ ∀ (j : Nat) t, fn.params[j]? = some t → Tryd.pinned.checked.prog.wantsStandIn t = false := by
  obtain rfl : f = 7 := Option.some.inj ((show Tryd.prog.funcNamed Rows.relHasRow.func = some 7 by kernel_rfl).symm.trans hf) |>.symm
  obtain rfl : fn = Tryd.f7 := (Option.some.inj (Tryd.func7.symm.trans hfn)).symm
  refine ⟨by kernel_rfl, fun j t ht => ?_⟩
  rw [Tryd.params7] at ht
  have hm := Array.mem_of_getElem? ht
  simp at hm
  rcases hm with rfl | rfl | rfl
  all_goals exact (show Tryd.prog.wantsStandIn _ = false by kernel_rfl)
/-- The card. -/
theorem proved : Rows.RelHasCardSaid :=
  Claim7.holds_tied_plain_at .later [] _ _ _ _ said (fun _ h => by cases h) (by kernel_rfl) (fun _ h => by cases h) relHas_row_tie rfl ⟨rfl, rfl⟩ (by kernel_rfl) rfl plain (by kernel_rfl)
#print axioms proved
end Go.Proofs.YtmiajpoclgdhbaaDoor.relHas
