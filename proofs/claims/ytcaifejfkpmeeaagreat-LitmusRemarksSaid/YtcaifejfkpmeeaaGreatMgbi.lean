/- granuleref11.Same: conditions alike. -/
import Derived.Test.YtcaifejfkpmeeaaGreatMgaf
import Derived.Test.YtcaifejfkpmeeaaGreatMgbh
import Derived.Deep.RegionHeld
namespace Go.Proofs.YtcaifejfkpmeeaaGreat
open Go.RowKit
set_option linter.unusedVariables false
set_option linter.unusedSimpArgs false

set_option maxRecDepth 100000 in
set_option maxHeartbeats 6400000 in
theorem same_any : ∀ (t u : CT) (w : World) (S S' : Nat → Prop) (cs ds : List Value), CT.At w S t cs → CT.At w S' u ds →
    Calls Tryz.prog 14 #[.agg cs.toArray, .agg ds.toArray] w fun e w' => e = .returned (.bool (sameT t u)) ∧ Below w.heap.size w w' := by
  intro t
  refine CT.ind (P := fun t => ∀ (u : CT) (w : World) (S S' : Nat → Prop) (cs ds : List Value), CT.At w S t cs → CT.At w S' u ds → Calls Tryz.prog 14 #[.agg cs.toArray, .agg ds.toArray] w fun e w' => e = .returned (.bool (sameT t u)) ∧ Below w.heap.size w w') ?_ t
  intro k c r a v args IH u w S S' cs ds ht hu
  obtain ⟨k', c', r', a', v', args'⟩ := u
  obtain ⟨p, cap, rfl, h1, h2, h3, h4, h5⟩ := ht.own
  obtain ⟨p', cap', rfl, h1', h2', h3', h4', h5'⟩ := hu.own
  have HI := Lib.hid IH
  have HV := Lib.hid (show sameT (.mk k c r a v args) (.mk k' c' r' a' v' args') = (headS k c r a v args.length k' c' r' a' v' args'.length && sameL args args') from rfl)
  generalize sameT (.mk k c r a v args) (.mk k' c' r' a' v' args') = R at *
  generalize hlen : args.length = ln at *
  generalize hlen' : args'.length = ln' at *
  have HNO := Lib.hid (fun (h : ¬ (k = k' ∧ c = c' ∧ r = r' ∧ a = a' ∧ v = v' ∧ ln = ln')) => show R = false by rw [HV.out, headS, decide_eq_false h]; rfl)
  have hbx := below_alloc (below_alloc (Below.refl w.heap.size w) (.cells #[.int .i64 k, .int .i64 c, .int .i64 r, .int .u64 (a : Nat), .int .u64 (v : Nat), .slice p ln cap] 29)) (.cells #[.int .i64 k', .int .i64 c', .int .i64 r', .int .u64 (a' : Nat), .int .u64 (v' : Nat), .slice p' ln' cap'] 29)
  have HB := Lib.hid hbx
  have HN := Lib.hid ((own_box w #[.int .i64 k, .int .i64 c, .int .i64 r, .int .u64 (a : Nat), .int .u64 (v : Nat), .slice p ln cap]).alloc (.cells #[.int .i64 k', .int .i64 c', .int .i64 r', .int .u64 (a' : Nat), .int .u64 (v' : Nat), .slice p' ln' cap'] 29))
  have HM := Lib.hid (show Blk ((w.alloc (.cells #[.int .i64 k, .int .i64 c, .int .i64 r, .int .u64 (a : Nat), .int .u64 (v : Nat), .slice p ln cap] 29)).alloc (.cells #[.int .i64 k', .int .i64 c', .int .i64 r', .int .u64 (a' : Nat), .int .u64 (v' : Nat), .slice p' ln' cap'] 29)) 29 (w.heap.size + 1) [.int .i64 k', .int .i64 c', .int .i64 r', .int .u64 (a' : Nat), .int .u64 (v' : Nat), .slice p' ln' cap'] from by simpa using own_box (w.alloc (.cells #[.int .i64 k, .int .i64 c, .int .i64 r, .int .u64 (a : Nat), .int .u64 (v : Nat), .slice p ln cap] 29)) #[.int .i64 k', .int .i64 c', .int .i64 r', .int .u64 (a' : Nat), .int .u64 (v' : Nat), .slice p' ln' cap'])
  have HR := Lib.hid (h5.below hbx)
  have HR' := Lib.hid (h5'.below hbx)
  have hcap : cap ≤ 9223372036854775807 := by unfold maxLen at h2; omega
  have hcap' : cap' ≤ 9223372036854775807 := by unfold maxLen at h2'; omega
  have HLEN := Lib.hid hlen
  have HLEN' := Lib.hid hlen'
  clear ht hu IH h5 h5' h4 h4' hlen hlen' hbx
  obtain ⟨n0, n1, n2, n3, n4, n5⟩ := blk_cells6' HN.out
  obtain ⟨m0, m1, m2, m3, m4, m5⟩ := blk_cells6' HM.out
  have lens : ∀ x y : Nat, ¬ x = y → ((x : Int) != (y : Int)) = true := fun x y h => by rw [bne_iff_ne]; omega
  have ints : ∀ x y : Int, ¬ x = y → (x != y) = true := fun x y h => by rw [bne_iff_ne]; exact h
  by_cases e_k : k = k'
  case neg =>
    have q := ints _ _ e_k
    have HX := HNO.out (fun h => e_k (by simp [h]))
    clear HV HNO HI HR HR' lens ints
    go_enter Tryz.func14, Tryz.ntmps14
    go_wp2_with fail
    go_ret
    exact ⟨rfl, HB.out⟩
  subst e_k
  by_cases e_c : c = c'
  case neg =>
    have q := ints _ _ e_c
    have HX := HNO.out (fun h => e_c (by simp [h]))
    clear HV HNO HI HR HR' lens ints
    go_enter Tryz.func14, Tryz.ntmps14
    go_wp2_with fail
    go_ret
    exact ⟨rfl, HB.out⟩
  subst e_c
  by_cases e_r : r = r'
  case neg =>
    have q := ints _ _ e_r
    have HX := HNO.out (fun h => e_r (by simp [h]))
    clear HV HNO HI HR HR' lens ints
    go_enter Tryz.func14, Tryz.ntmps14
    go_wp2_with fail
    go_ret
    exact ⟨rfl, HB.out⟩
  subst e_r
  by_cases e_a : a = a'
  case neg =>
    have q := lens _ _ e_a
    have HX := HNO.out (fun h => e_a (by simp [h]))
    clear HV HNO HI HR HR' lens ints
    go_enter Tryz.func14, Tryz.ntmps14
    go_wp2_with fail
    go_ret
    exact ⟨rfl, HB.out⟩
  subst e_a
  by_cases e_v : v = v'
  case neg =>
    have q := lens _ _ e_v
    have HX := HNO.out (fun h => e_v (by simp [h]))
    clear HV HNO HI HR HR' lens ints
    go_enter Tryz.func14, Tryz.ntmps14
    go_wp2_with fail
    go_ret
    exact ⟨rfl, HB.out⟩
  subst e_v
  by_cases e_ln : ln = ln'
  case neg =>
    have q := lens _ _ e_ln
    have HX := HNO.out (fun h => e_ln (by simp [h]))
    clear HV HNO HI HR HR' lens ints
    go_enter Tryz.func14, Tryz.ntmps14
    go_wp2_with fail
    go_ret
    exact ⟨rfl, HB.out⟩
  subst e_ln
  clear lens ints HNO
  have HX := Lib.hid (show R = sameL args args' by rw [HV.out, headS, decide_eq_true ⟨rfl, rfl, rfl, rfl, rfl, rfl⟩]; rfl)
  have HHIT := Lib.hid (fun j h h' e => sameL_hit args args' j h h' e)
  have HALL := Lib.hid (sameL_all args args')
  clear HV
  go_enter Tryz.func14, Tryz.ntmps14
  generalize hW1 : ((w.alloc (.cells #[.int .i64 k, .int .i64 c, .int .i64 r, .int .u64 (a : Nat), .int .u64 (v : Nat), .slice p ln cap] 29)).alloc (.cells #[.int .i64 k, .int .i64 c, .int .i64 r, .int .u64 (a : Nat), .int .u64 (v : Nat), .slice p' ln cap'] 29)) = w1 at *
  have hsz : w.heap.size + 1 < w1.heap.size := by rw [← hW1]; first | (simp; done) | (simp; omega)
  have HW1 := Lib.hid hW1
  clear hW1
  go_wp2_with fail
  go_loopw [5] (fun i wr => ∃ j : Nat, j ≤ ln ∧ i = .int .i64 j ∧ (∀ x (h : x < args.length) (h' : x < args'.length), x < j → sameT args[x] args'[x] = true) ∧ Below w1.heap.size w1 wr) (fun i _ => ln - (intOf i).toNat)
  case atStart => exact ⟨0, by omega, rfl, fun x _ _ h => by omega, by rw [HW1.out]; exact Below.refl _ _⟩
  case round =>
    obtain ⟨j, hj, rfl, h0, hb⟩ := hrel
    have HBR := Lib.hid hb
    have H0 := Lib.hid h0
    have n5r := cell_below n5 hb
    have m5r := cell_below m5 hb
    clear hb h0
    by_cases hjl : j < ln
    · have hj0 : (0 : Int) ≤ j := by omega
      have hjn : (j : Int) < ln := by omega
      have hja : j < args.length := by rw [HLEN.out]; exact hjl
      have hjb : j < args'.length := by rw [HLEN'.out]; exact hjl
      obtain ⟨g, off, ek, ec, er, ea, ev, eq, el, ep, rfl, e0, e1, e2, e3, e4, e5, hu⟩ := (HR.out.below HBR.out).part hja
      obtain ⟨g', off', fk, fc, fr, fa, fv, fq, fl, fp, rfl, f0, f1, f2, f3, f4, f5, hu'⟩ := (HR'.out.below HBR.out).part hjb
      have HC := Lib.hid (HI.out _ (List.getElem_mem hja) _ wr.drew _ _ _ _ (CT.At.drew hu) (CT.At.drew hu'))
      have HH := Lib.hid (HHIT.out j hja hjb)
      have HNX := Lib.hid (fun (e : sameT args[j] args'[j] = true) x (h : x < args.length) (h' : x < args'.length) (hx : x < j + 1) => show sameT args[x] args'[x] = true by
        by_cases hxj : x = j
        · subst hxj; exact e
        · exact H0.out x h h' (by omega))
      clear hu hu'
      generalize sameT args[j] args'[j] = Y at *
      generalize args[j] = t1 at *
      generalize args'[j] = t2 at *
      go_wp2_with fail
      refine wp_region_held_drew (S := (fun w' => w'.cell? ⟨w.heap.size, 5, none⟩ = some (.slice (some ⟨g, off, none⟩) ln cap) ∧ w'.cell? ⟨w.heap.size + 1, 5, none⟩ = some (.slice (some ⟨g', off', none⟩) ln cap') ∧ w'.cell? ⟨g, off + j * 6, none⟩ = some (.int .i64 ek) ∧ w'.cell? ⟨g, off + j * 6 + 1, none⟩ = some (.int .i64 ec) ∧ w'.cell? ⟨g, off + j * 6 + 2, none⟩ = some (.int .i64 er) ∧ w'.cell? ⟨g, off + j * 6 + 3, none⟩ = some (.int .u64 ea) ∧ w'.cell? ⟨g, off + j * 6 + 4, none⟩ = some (.int .u64 ev) ∧ w'.cell? ⟨g, off + j * 6 + 5, none⟩ = some (.slice eq el ep) ∧ w'.cell? ⟨g', off' + j * 6, none⟩ = some (.int .i64 fk) ∧ w'.cell? ⟨g', off' + j * 6 + 1, none⟩ = some (.int .i64 fc) ∧ w'.cell? ⟨g', off' + j * 6 + 2, none⟩ = some (.int .i64 fr) ∧ w'.cell? ⟨g', off' + j * 6 + 3, none⟩ = some (.int .u64 fa) ∧ w'.cell? ⟨g', off' + j * 6 + 4, none⟩ = some (.int .u64 fv) ∧ w'.cell? ⟨g', off' + j * 6 + 5, none⟩ = some (.slice fq fl fp))) (by kernel_rfl) (by (try dsimp only); exact ⟨n5r, m5r, e0, e1, e2, e3, e4, e5, f0, f1, f2, f3, f4, f5⟩) (fun hHeld => ?_)
      refine wpAnyH_take (i := 0) (oi := ⟨some 55, _, _, _, _, _⟩) (v := ?_) rfl (by kernel_rfl) (by kernel_rfl) (by kernel_rfl) (fun _ _ _ h => h) (Or.inl ⟨by rfl, ?_⟩) (by assumption) ?_
      rotate_left
      · (intro w hSw; (try dsimp only at hSw); go_simp; try with_reducible rfl)
      simp only [Act.put, List.setIfInBounds_toArray, List.set_cons_zero, List.set_cons_succ]
      refine wpAnyH_take (i := 1) (oi := ⟨some 56, _, _, _, _, _⟩) (v := ?_) rfl (by kernel_rfl) (by kernel_rfl) (by kernel_rfl) (fun _ _ _ h => h) (Or.inl ⟨by rfl, ?_⟩) (by assumption) ?_
      rotate_left
      · (intro w hSw; (try dsimp only at hSw); go_simp; try with_reducible rfl)
      simp only [Act.put, List.setIfInBounds_toArray, List.set_cons_zero, List.set_cons_succ]
      refine wpAnyH_take (i := 2) (oi := ⟨some 57, _, _, _, _, _⟩) (v := ?_) rfl (by kernel_rfl) (by kernel_rfl) (by kernel_rfl) (fun _ _ _ h => h) (Or.inl ⟨by rfl, ?_⟩) (by assumption) ?_
      rotate_left
      · (intro w hSw; (try dsimp only at hSw); go_simp; try with_reducible rfl)
      simp only [Act.put, List.setIfInBounds_toArray, List.set_cons_zero, List.set_cons_succ]
      refine wpAnyH_take (i := 3) (oi := ⟨some 58, _, _, _, _, _⟩) (v := ?_) rfl (by kernel_rfl) (by kernel_rfl) (by kernel_rfl) (fun _ _ _ h => h) (Or.inl ⟨by rfl, ?_⟩) (by assumption) ?_
      rotate_left
      · (intro w hSw; (try dsimp only at hSw); go_simp; try with_reducible rfl)
      simp only [Act.put, List.setIfInBounds_toArray, List.set_cons_zero, List.set_cons_succ]
      refine wpAnyH_take (i := 4) (oi := ⟨some 59, _, _, _, _, _⟩) (v := ?_) rfl (by kernel_rfl) (by kernel_rfl) (by kernel_rfl) (fun _ _ _ h => h) (Or.inl ⟨by rfl, ?_⟩) (by assumption) ?_
      rotate_left
      · (intro w hSw; (try dsimp only at hSw); go_simp; try with_reducible rfl)
      simp only [Act.put, List.setIfInBounds_toArray, List.set_cons_zero, List.set_cons_succ]
      refine wpAnyH_take (i := 5) (oi := ⟨some 60, _, _, _, _, _⟩) (v := ?_) rfl (by kernel_rfl) (by kernel_rfl) (by kernel_rfl) (fun _ _ _ h => h) (Or.inl ⟨by rfl, ?_⟩) (by assumption) ?_
      rotate_left
      · (intro w hSw; (try dsimp only at hSw); go_simp; try with_reducible rfl)
      simp only [Act.put, List.setIfInBounds_toArray, List.set_cons_zero, List.set_cons_succ]
      refine wpAnyH_take (i := 6) (oi := ⟨some 61, _, _, _, _, _⟩) (v := ?_) rfl (by kernel_rfl) (by kernel_rfl) (by kernel_rfl) (fun _ _ _ h => h) (Or.inl ⟨by rfl, ?_⟩) (by assumption) ?_
      rotate_left
      · (intro w hSw; (try dsimp only at hSw); go_simp; try with_reducible rfl)
      simp only [Act.put, List.setIfInBounds_toArray, List.set_cons_zero, List.set_cons_succ]
      refine wpAnyH_take (i := 7) (oi := ⟨some 62, _, _, _, _, _⟩) (v := ?_) rfl (by kernel_rfl) (by kernel_rfl) (by kernel_rfl) (fun _ _ _ h => h) (Or.inl ⟨by rfl, ?_⟩) (by assumption) ?_
      rotate_left
      · (intro w hSw; (try dsimp only at hSw); go_simp; try with_reducible rfl)
      simp only [Act.put, List.setIfInBounds_toArray, List.set_cons_zero, List.set_cons_succ]
      refine wpAnyH_take (i := 8) (oi := ⟨some 63, _, _, _, _, _⟩) (v := ?_) rfl (by kernel_rfl) (by kernel_rfl) (by kernel_rfl) (fun _ _ _ h => h) (Or.inl ⟨by rfl, ?_⟩) (by assumption) ?_
      rotate_left
      · (intro w hSw; (try dsimp only at hSw); go_simp; try with_reducible rfl)
      simp only [Act.put, List.setIfInBounds_toArray, List.set_cons_zero, List.set_cons_succ]
      refine wpAnyH_take (i := 9) (oi := ⟨some 64, _, _, _, _, _⟩) (v := ?_) rfl (by kernel_rfl) (by kernel_rfl) (by kernel_rfl) (fun _ _ _ h => h) (Or.inl ⟨by rfl, ?_⟩) (by assumption) ?_
      rotate_left
      · (intro w hSw; (try dsimp only at hSw); go_simp; try with_reducible rfl)
      simp only [Act.put, List.setIfInBounds_toArray, List.set_cons_zero, List.set_cons_succ]
      refine wpAnyH_ready (rs := [10]) (by kernel_rfl) (by simp) ?_
      refine AllReadyH.cons (o := ⟨some 65, _, _, _, _, _⟩) rfl (fun K hK => ?_) AllReadyH.nil
      go_simp
      go_at_call 14; refine (HC.out).mono ?_; rintro e w4 ⟨rfl, hb⟩; have HB4 := Lib.hid (below_trans HBR.out.drew hb); have n5r := cell_below_drew n5r hb; have m5r := cell_below_drew m5r hb; have e0 := cell_below_drew e0 hb; have e1 := cell_below_drew e1 hb; have e2 := cell_below_drew e2 hb; have e3 := cell_below_drew e3 hb; have e4 := cell_below_drew e4 hb; have e5 := cell_below_drew e5 hb; have f0 := cell_below_drew f0 hb; have f1 := cell_below_drew f1 hb; have f2 := cell_below_drew f2 hb; have f3 := cell_below_drew f3 hb; have f4 := cell_below_drew f4 hb; have f5 := cell_below_drew f5 hb; clear hb
      refine hK.out _ _ (by (try dsimp only); exact ⟨n5r, m5r, e0, e1, e2, e3, e4, e5, f0, f1, f2, f3, f4, f5⟩) ?_
      clear hK K hHeld
      intro hHeld
      try simp only [Act.put, List.setIfInBounds_toArray, List.set_cons_zero, List.set_cons_succ]
      refine wpAnyH_take (i := 11) (oi := ⟨some 66, _, _, _, _, _⟩) (v := ?_) rfl (by kernel_rfl) (by kernel_rfl) (by kernel_rfl) (fun _ _ _ h => h) (Or.inl ⟨by rfl, ?_⟩) (by assumption) ?_
      rotate_left
      · (intro w hSw; (try dsimp only at hSw); go_simp; try with_reducible rfl)
      simp only [Act.put, List.setIfInBounds_toArray, List.set_cons_zero, List.set_cons_succ]
      refine wpAnyH_done (by kernel_rfl) ?_ _

      cases hY : Y
      · have HF := Lib.hid (HX.out.trans (HH.out hY))
        subst hY
        go_wp2_with fail
        go_ret
        exact ⟨by rw [HF.out]; rfl, below_trans HB.out HB4.out⟩
      · have HF := Lib.hid (HNX.out hY)
        subst hY
        go_wp2_with fail
        go_roundw
        case rel => exact ⟨j + 1, by omega, by go_num, HF.out, HB4.out⟩
        case measure => simp [intOf]; omega
    · obtain rfl : j = ln := by omega
      have HF := Lib.hid (HX.out.trans (HALL.out (fun x h h' => H0.out x h h' (by rw [← HLEN.out]; exact h))))
      go_wp2_with fail
      go_ret
      exact ⟨by rw [HF.out]; rfl, below_trans HB.out HBR.out⟩
end Go.Proofs.YtcaifejfkpmeeaaGreat
