/- The document's text of a condition. -/
import Derived.Test.YteepoohcdmjmhaaCondRightW
import Derived.Test.YteepoohcdmjmhaaRTextP
import Derived.Test.YteepoohcdmjmhaaCondOne
import Derived.Deep.DeepCutAuto
import Derived.Deep.RegionHeld
namespace Go.Proofs.Yteepoohcdmjmhaa
open Go.RowKit
set_option linter.unusedVariables false
set_option linter.unusedSimpArgs false

theorem rreg_any (n : Int) (w : World) (hn : -9223372036854775808 ≤ n ∧ n ≤ 9223372036854775807) :
    Calls Try.prog 32 #[.int .i64 n] w fun e w' => e = .returned (.string (ba (regL n))) ∧ ∃ m, w' = w.drewN m := by
  by_cases h31 : n = 31
  · subst h31
    go_enter Try.func32, Try.ntmps32
    go_wp2_with fail
    go_ret
    exact ⟨rfl, 0, rfl⟩
  · by_cases hr : 0 ≤ n ∧ n < 31
    · have H := Lib.hid (show regL n = [88] ++ intL n by unfold regL; rw [if_neg h31, if_pos hr])
      obtain ⟨h0, h1⟩ := hr
      have h1a : ¬ (30 : Int) < n := by omega
      have h0a : ¬ n < 0 := by omega
      have h31b : (n == 31) = false := by rw [beq_eq_false_iff_ne]; exact h31
      have b1 := intL_len n hn
      have hcat : ∀ wx : World, (Op.stringOp .add { data := #[88] } (ba (intL n))).run Try.prog wx = .ok (.string (ba ([88] ++ intL n))) wx := cat_ba (P := Try.prog) [88] (intL n) (by simp; omega)
      have HI := Lib.hid (fun w1 : World => rint_any n w1 hn)
      go_enter Try.func32, Try.ntmps32
      go_wp2_with fail
      refine (HI.out _).mono ?_
      rintro e w' ⟨rfl, m, rfl⟩
      go_wp2_with fail
      go_ret
      exact ⟨by rw [H.out]; rfl, _, rfl⟩
    · have H := Lib.hid (show regL n = [] by unfold regL; rw [if_neg h31, if_neg hr])
      have h31b : (n == 31) = false := by rw [beq_eq_false_iff_ne]; exact h31
      by_cases h0 : 0 ≤ n
      · have h1 : ¬ n < 31 := fun h => hr ⟨h0, h⟩
        have h0a : ¬ n < 0 := by omega
        have h1b : (30 : Int) < n := by omega
        go_enter Try.func32, Try.ntmps32
        go_wp2_with fail
        go_ret
        exact ⟨by rw [H.out]; rfl, 0, rfl⟩
      · go_enter Try.func32, Try.ntmps32
        go_wp2_with fail
        go_ret
        exact ⟨by rw [H.out]; rfl, 0, rfl⟩
def wrapK (ks : List Int) (k : Int) (T : List UInt8) : List UInt8 := if k ∈ ks then [40] ++ T ++ [41] else T
theorem wrap_in {ks : List Int} {j : Nat} (hj : j < ks.length) (T : List UInt8) : wrapK ks ks[j] T = [40] ++ T ++ [41] := if_pos (List.getElem_mem hj)
theorem wrap_out {ks : List Int} {k : Int} (h : ∀ x ∈ ks, ¬ k = x) (T : List UInt8) : wrapK ks k T = T := if_neg (fun hm => h k hm rfl)
theorem take_has {ks : List Int} {j : Nat} {k : Int} (hj : j < ks.length) (h : ∀ x ∈ ks.take j, ¬ k = x) (hn : ¬ k = ks[j]) : ∀ x ∈ ks.take (j + 1), ¬ k = x := by
  rw [List.take_succ_eq_append_getElem hj]
  intro x hx
  rcases List.mem_append.1 hx with h1 | h1
  · exact h x h1
  · rw [List.mem_singleton.1 h1]; exact hn
def kindT : CT → Int
  | .mk k _ _ _ _ _ => k
def RPrintOK (t : CT) : Prop := ∀ (cores : Int) (w : World) (S : Nat → Prop) (cs : List Value), countT t ≤ 1000 → rightT cores t = 0 → CT.At w S t cs →
    Calls Try.prog 12 #[.agg cs.toArray] w fun e w' => e = .returned (.string (ba (printT t))) ∧ Below w.heap.size w w'
theorem cells_ints (ks : List Int) (j : Nat) (hj : j < ks.length) : (ks.map (Value.int .i64))[j]? = some (.int .i64 ks[j]) := by simp [hj]
set_option maxRecDepth 100000 in
set_option maxHeartbeats 3200000 in
theorem wrap_any (t : CT) (hp : RPrintOK t) (cores : Int) (ks : List Int) (hks : ks.length ≤ 4) (g : Nat) (w : World) (S : Nat → Prop) (cs : List Value) (hc : countT t ≤ 1000) (hr : rightT cores t = 0) (h : CT.At w S t cs) (hk : Blk w 3 g (ks.map (Value.int .i64))) :
    Calls Try.prog 33 #[.agg cs.toArray, .slice (some ⟨g, 0, none⟩) ks.length ks.length] w fun e w' => e = .returned (.string (ba (wrapK ks (kindT t) (printT t)))) ∧ Below w.heap.size w w' := by
  have hln := print_len t (CT.At.fits t cs h)
  have HP := Lib.hid (fun w2 S2 (h2 : CT.At w2 S2 t cs) => hp cores w2 S2 cs hc hr h2)
  have H0 := Lib.hid h
  obtain ⟨k, c, r, a, v, args⟩ := t
  obtain ⟨p, cap, rfl, _⟩ := h.own
  generalize args.length = ln at *
  have HB := Lib.hid (show Below w.heap.size w (w.alloc (.cells #[.int .i64 k, .int .i64 c, .int .i64 r, .int .u64 (a : Nat), .int .u64 (v : Nat), .slice p ln cap] 25)) from below_alloc (Below.refl _ _) _)
  have HN := Lib.hid (own_box w #[.int .i64 k, .int .i64 c, .int .i64 r, .int .u64 (a : Nat), .int .u64 (v : Nat), .slice p ln cap])
  have HK := Lib.hid (hk.alloc (.cells #[.int .i64 k, .int .i64 c, .int .i64 r, .int .u64 (a : Nat), .int .u64 (v : Nat), .slice p ln cap] 25))
  have H1 := Lib.hid (H0.out.below HB.out)
  rw [show kindT (.mk k c r a v args) = k from rfl]
  clear h H0 hk hp hr
  generalize printT (.mk k c r a v args) = TX at *
  have HIN := Lib.hid (fun j (hj : j < ks.length) => wrap_in hj TX)
  have HOUT := Lib.hid (fun (h : ∀ x ∈ ks, ¬ k = x) => wrap_out h TX)
  obtain ⟨A1, hA1⟩ : ∃ A : List UInt8, A = [40] ++ TX := ⟨_, rfl⟩
  obtain ⟨A2, hA2⟩ : ∃ A : List UInt8, A = A1 ++ [41] := ⟨_, rfl⟩
  have hcat1 : ∀ wx : World, (Op.stringOp .add { data := #[40] } (ba TX)).run Try.prog wx = .ok (.string (ba A1)) wx := cat_bb (P := Try.prog) [40] TX A1 hA1 (by simp; omega)
  have hcat2 : ∀ wx : World, (Op.stringOp .add (ba A1) { data := #[41] }).run Try.prog wx = .ok (.string (ba A2)) wx := cat_bb (P := Try.prog) A1 [41] A2 hA2 (by rw [hA1]; simp; omega)
  have HA := Lib.hid (show A2 = [40] ++ TX ++ [41] by rw [hA2, hA1])
  have HT := Lib.hid (fun j (hj : j < ks.length) (hx : ∀ x ∈ ks.take j, ¬ k = x) hn => take_has hj hx hn)
  have HCI := Lib.hid (cells_ints ks)
  clear hA1 hA2
  obtain ⟨R, hR⟩ : ∃ R, R = wrapK ks k TX := ⟨_, rfl⟩
  rw [← hR]
  have HR := Lib.hid hR
  clear hR
  obtain ⟨kl, hkl⟩ : ∃ n, ks.length = n := ⟨_, rfl⟩
  rw [hkl] at hks ⊢
  go_enter Try.func33, Try.ntmps33
  generalize hW1 : w.alloc (.cells #[.int .i64 k, .int .i64 c, .int .i64 r, .int .u64 (a : Nat), .int .u64 (v : Nat), .slice p ln cap] 25) = w1 at *
  have HW1 := Lib.hid hW1
  clear hW1
  obtain ⟨n0, n1, n2, n3, n4, n5⟩ := blk_cells6' HN.out
  go_wp2_with fail
  go_loopw [5] (fun i wr => ∃ j : Nat, j ≤ kl ∧ i = .int .i64 j ∧ (∀ x ∈ ks.take j, ¬ k = x) ∧ Below w1.heap.size w1 wr) (fun i _ => kl - (intOf i).toNat)
  case atStart => exact ⟨0, by omega, rfl, fun x hx => by simp at hx, by rw [HW1.out]; exact Below.refl _ _⟩
  case round =>
    obtain ⟨j, hj, rfl, hall, hb⟩ := hrel
    have HBR := Lib.hid hb
    have HALL := Lib.hid hall
    have n0r := cell_below n0 hb
    have n1r := cell_below n1 hb
    have n2r := cell_below n2 hb
    have n3r := cell_below n3 hb
    have n4r := cell_below n4 hb
    have n5r := cell_below n5 hb
    clear hb hall
    by_cases hjl : j < kl
    · have hj0 : (0 : Int) ≤ j := by omega
      have hjn : (j : Int) < kl := by omega
      have hja : j < ks.length := by rw [hkl]; exact hjl
      have kc : wr.cell? ⟨g, j, none⟩ = some (.int .i64 ks[j]) := by rw [(HK.out.below HBR.out).cell]; exact HCI.out j hja
      have HI2 := Lib.hid (HIN.out j hja)
      have HT2 := Lib.hid (HT.out j hja)
      generalize ks[j] = q at *
      by_cases hq : k = q
      · subst hq
        have HC := Lib.hid (fun n => HP.out _ _ (H1.out.below (below_drewN HBR.out n)))
        have HF := Lib.hid (show R = A2 by rw [HR.out, HI2.out, HA.out])
        go_wp2_with fail
        go_quiet (fail)
        go_wp2_with fail
        refine (HC.out _).mono ?_
        rintro e w4 ⟨rfl, hb⟩
        have HB4 := Lib.hid (below_trans (below_drewN (below_trans HB.out HBR.out) _) hb)
        clear hb HC
        go_wp2_with fail
        go_ret
        exact ⟨by rw [HF.out]; rfl, HB4.out⟩
      · have hqb : (k == q) = false := by rw [beq_eq_false_iff_ne]; exact hq
        have HT3 := Lib.hid (HT2.out HALL.out hq)
        go_wp2_with fail
        go_quiet (fail)
        go_wp2_with fail
        go_roundw
        case rel => exact ⟨j + 1, by omega, by go_num, HT3.out, below_drewN HBR.out _⟩
        case measure => simp [intOf]; omega
    · obtain rfl : j = kl := by omega
      have HF := Lib.hid (show R = TX by rw [HR.out]; exact HOUT.out (fun x hx => HALL.out x (by rw [← hkl, List.take_length]; exact hx)))
      have HC := Lib.hid (HP.out _ _ (H1.out.below HBR.out))
      go_wp2_with fail
      refine (HC.out).mono ?_
      rintro e w4 ⟨rfl, hb⟩
      have HB4 := Lib.hid (below_trans (below_trans HB.out HBR.out) hb)
      clear hb HC
      go_wp2_with fail
      go_ret
      exact ⟨by rw [HF.out]; rfl, HB4.out⟩
theorem head0 {k c r cores : Int} {len : Nat} (h : headR k c r cores len = 0) : (1 ≤ k ∧ k ≤ 7) ∧ (len : Int) = wantN k ∧ (k = 1 → 0 ≤ r ∧ r < 31) ∧ (k = 1 ∨ k = 3 → 0 ≤ c ∧ c < cores) := by
  unfold headR at h
  split at h
  · cases h
  · split at h
    · cases h
    · rename_i h1 h2
      refine ⟨by omega, by omega, fun e => by omega, fun e => by omega⟩
theorem right0 {k c r cores : Int} {a v : Nat} {args : List CT} (h : rightT cores (.mk k c r a v args) = 0) : headR k c r cores args.length = 0 ∧ ∀ t ∈ args, rightT cores t = 0 := by
  rw [rightT] at h
  split at h
  · rename_i h0
    refine ⟨h0, ?_⟩
    clear h0
    induction args with
    | nil => intro t ht; cases ht
    | cons x l ih =>
      rw [rightL] at h
      split at h
      · rename_i hx
        intro t ht
        rcases List.mem_cons.1 ht with rfl | h1
        · exact hx
        · exact ih h t h1
      · rename_i hx; exact absurd h hx
  · rename_i h0; exact absurd h h0
theorem rhex_at (v : Nat) (w : World) (hv : v < 18446744073709551616) : Calls Try.prog 30 #[.int .u64 (v : Nat)] w fun e w' => e = .returned (.string (ba (hexL v))) ∧ ∃ m, w' = w.drewN m := by
  have h := rhex_any (v : Nat) w ⟨by omega, by omega⟩
  rw [Int.toNat_natCast] at h
  exact h
theorem wrap_two (t : CT) (T : List UInt8) : wrapK [5] (kindT t) T = innerL 2 (levelT t, T) := by
  obtain ⟨k, c, r, a, v, args⟩ := t
  unfold wrapK innerL levelT kindT
  by_cases h5 : k = 5
  · subst h5; simp
  · by_cases h4 : k = 4 <;> simp [h5, h4]
theorem wrap_three (t : CT) (T : List UInt8) : wrapK [5, 4] (kindT t) T = innerL 3 (levelT t, T) ∧ wrapK [4, 5] (kindT t) T = innerL 3 (levelT t, T) := by
  obtain ⟨k, c, r, a, v, args⟩ := t
  unfold wrapK innerL levelT kindT
  by_cases h5 : k = 5
  · subst h5; simp
  · by_cases h4 : k = 4 <;> simp [h5, h4]
theorem inner_one (t : CT) (T : List UInt8) : innerL 1 (levelT t, T) = T := by
  obtain ⟨k, c, r, a, v, args⟩ := t
  unfold innerL levelT
  by_cases h5 : k = 5
  · subst h5; simp
  · by_cases h4 : k = 4 <;> simp [h5, h4]
set_option maxRecDepth 100000 in
set_option maxHeartbeats 6400000 in
theorem rprint_any : ∀ (t : CT), RPrintOK t := by
  intro t
  refine CT.ind (P := RPrintOK) ?_ t
  intro k c r a v args IH cores w S cs hc hrt ht
  have hln := print_len _ (CT.At.fits _ _ ht)
  obtain ⟨p, cap, rfl, h1, h2, h3, h4, h5⟩ := ht.own
  obtain ⟨hv, hk, hcI, hrI⟩ := h4
  obtain ⟨hh0, hra⟩ := right0 hrt
  obtain ⟨hk7, hwant, hr1, hc1⟩ := head0 hh0
  have HI := Lib.hid IH
  have HRA := Lib.hid hra
  generalize hlen : args.length = ln at *
  have HN := Lib.hid (own_box w #[.int .i64 k, .int .i64 c, .int .i64 r, .int .u64 (a : Nat), .int .u64 (v : Nat), .slice p ln cap])
  have HB := Lib.hid (show Below w.heap.size w (w.alloc (.cells #[.int .i64 k, .int .i64 c, .int .i64 r, .int .u64 (a : Nat), .int .u64 (v : Nat), .slice p ln cap] 25)) from below_alloc (Below.refl _ _) _)
  have HR := Lib.hid (h5.below HB.out)
  have HV := Lib.hid (show printT (.mk k c r a v args) = nodeX k (intL c) (regL r) (hexL a) (hexL v) (printL args) from rfl)
  have hcap : cap ≤ 9223372036854775807 := by unfold maxLen at h2; omega
  have HLC := Lib.hid (show countT (.mk k c r a v args) = 1 + countL args from rfl)
  clear ht IH h5 hrt hh0 hra
  generalize printT (.mk k c r a v args) = R at *
  have b1 := intL_len c hcI
  have b2 := regL_len r hrI
  have b3 := hexL_len a h3
  have b4 := hexL_len v hv
  obtain ⟨n0, n1, n2, n3, n4, n5⟩ := blk_cells6' HN.out
  have HHex := Lib.hid (fun w1 => rhex_at v w1 hv)
  have HHexA := Lib.hid (fun w1 => rhex_at a w1 h3)
  have HHexB := Lib.hid (fun w1 => (rhex_at v w1 hv).mono fun e w' (h : e = .returned (.string (ba (hexL v))) ∧ ∃ m, w' = w1.drewN m) => show e = .returned (.string (ba (hexL v))) ∧ Below w1.heap.size w1 w' from ⟨h.1, by obtain ⟨m, rfl⟩ := h.2; exact below_drewN (Below.refl _ _) m⟩)
  have HInt := Lib.hid (fun w1 => rint_any c w1 hcI)
  have HReg := Lib.hid (fun w1 => rreg_any r w1 hrI)
  generalize hexL v = X4 at *
  generalize hexL a = X3 at *
  generalize intL c = X1 at *
  generalize regL r = X2 at *
  by_cases k1 : k = 1
  · subst k1
    obtain ⟨AV, hAV⟩ : ∃ A : List UInt8, A = [61] ++ X4 := ⟨_, rfl⟩
    have hcatv : ∀ wx : World, (Op.stringOp .add { data := #[61] } (ba X4)).run Try.prog wx = .ok (.string (ba AV)) wx := cat_bb (P := Try.prog) [61] X4 AV hAV (by simp; omega)
    have bV : AV.length ≤ 67 := by rw [hAV]; simp; omega
    obtain ⟨A1, hA1⟩ : ∃ A : List UInt8, A = X1 ++ [58] := ⟨_, rfl⟩
    have hcat1 : ∀ wx : World, (Op.stringOp .add (ba X1) { data := #[58] }).run Try.prog wx = .ok (.string (ba A1)) wx := cat_bb (P := Try.prog) X1 [58] A1 hA1 (by simp; omega)
    obtain ⟨A2, hA2⟩ : ∃ A : List UInt8, A = A1 ++ X2 := ⟨_, rfl⟩
    have hcat2 : ∀ wx : World, (Op.stringOp .add (ba A1) (ba X2)).run Try.prog wx = .ok (.string (ba A2)) wx := cat_bb (P := Try.prog) A1 X2 A2 hA2 (by rw [hA1]; simp; omega)
    obtain ⟨A3, hA3⟩ : ∃ A : List UInt8, A = A2 ++ AV := ⟨_, rfl⟩
    have hcat3 : ∀ wx : World, (Op.stringOp .add (ba A2) (ba AV)).run Try.prog wx = .ok (.string (ba A3)) wx := cat_bb (P := Try.prog) A2 AV A3 hA3 (by rw [hA2]; rw [hA1]; simp; omega)
    have HA := Lib.hid (show A3 = X1 ++ [58] ++ X2 ++ [61] ++ X4 by rw [hA3, hA2, hA1, hAV]; simp)
    clear hAV hA1 hA2 hA3 bV
    have HF := Lib.hid (show R = A3 by rw [HV.out, HA.out]; rfl)
    clear HV HA HI HR HRA
    go_enter Try.func12, Try.ntmps12
    go_wp2_with fail
    refine (HHex.out _).mono ?_
    rintro e w' ⟨rfl, m, rfl⟩
    go_wp2_with fail
    refine wp_region_held_drew (S := (fun w' => w'.cell? ⟨w.heap.size, 1, none⟩ = some (.int .i64 c) ∧ w'.cell? ⟨w.heap.size, 2, none⟩ = some (.int .i64 r))) (by kernel_rfl) (by (try dsimp only); exact ⟨n1, n2⟩) (fun hHeld => ?_)
    refine wpAnyH_take (i := 0) (oi := ⟨some 12, _, _, _, _, _⟩) (v := ?_) rfl (by kernel_rfl) (by kernel_rfl) (by kernel_rfl) (fun _ _ _ h => h) (Or.inl ⟨by rfl, ?_⟩) (by assumption) ?_
    rotate_left
    · (intro w hSw; (try dsimp only at hSw); go_simp; try with_reducible rfl)
    simp only [Act.put, List.setIfInBounds_toArray, List.set_cons_zero, List.set_cons_succ]
    refine wpAnyH_take (i := 1) (oi := ⟨some 13, _, _, _, _, _⟩) (v := ?_) rfl (by kernel_rfl) (by kernel_rfl) (by kernel_rfl) (fun _ _ _ h => h) (Or.inl ⟨by rfl, ?_⟩) (by assumption) ?_
    rotate_left
    · (intro w hSw; (try dsimp only at hSw); go_simp; try with_reducible rfl)
    simp only [Act.put, List.setIfInBounds_toArray, List.set_cons_zero, List.set_cons_succ]
    refine wpAnyH_take (i := 4) (oi := ⟨some 16, _, _, _, _, _⟩) (v := ?_) rfl (by kernel_rfl) (by kernel_rfl) (by kernel_rfl) (fun _ _ _ h => h) (Or.inl ⟨by rfl, ?_⟩) (by assumption) ?_
    rotate_left
    · (intro w hSw; (try dsimp only at hSw); go_simp; try with_reducible rfl)
    simp only [Act.put, List.setIfInBounds_toArray, List.set_cons_zero, List.set_cons_succ]
    refine wpAnyH_take (i := 5) (oi := ⟨some 17, _, _, _, _, _⟩) (v := ?_) rfl (by kernel_rfl) (by kernel_rfl) (by kernel_rfl) (fun _ _ _ h => h) (Or.inl ⟨by rfl, ?_⟩) (by assumption) ?_
    rotate_left
    · (intro w hSw; (try dsimp only at hSw); go_simp; try with_reducible rfl)
    simp only [Act.put, List.setIfInBounds_toArray, List.set_cons_zero, List.set_cons_succ]
    refine wpAnyH_take (i := 8) (oi := ⟨some 20, _, _, _, _, _⟩) (v := ?_) rfl (by kernel_rfl) (by kernel_rfl) (by kernel_rfl) (fun _ _ _ h => h) (Or.inl ⟨by rfl, ?_⟩) (by assumption) ?_
    rotate_left
    · (intro w hSw; (try dsimp only at hSw); go_simp; try with_reducible rfl)
    simp only [Act.put, List.setIfInBounds_toArray, List.set_cons_zero, List.set_cons_succ]
    refine wpAnyH_ready (rs := [2]) (by kernel_rfl) (by simp) ?_
    refine AllReadyH.cons (o := ⟨some 14, _, _, _, _, _⟩) rfl (fun K hK => ?_) AllReadyH.nil
    go_simp
    go_at_call 31; refine (HInt.out _).mono ?_; rintro e w' ⟨rfl, m1, rfl⟩
    refine hK.out _ _ (by (try dsimp only); exact ⟨n1, n2⟩) ?_
    clear hK K hHeld
    intro hHeld
    try simp only [Act.put, List.setIfInBounds_toArray, List.set_cons_zero, List.set_cons_succ]
    refine wpAnyH_take (i := 3) (oi := ⟨some 15, _, _, _, _, _⟩) (v := ?_) rfl (by kernel_rfl) (by kernel_rfl) (by kernel_rfl) (fun _ _ _ h => h) (Or.inl ⟨by rfl, ?_⟩) (by assumption) ?_
    rotate_left
    · (intro w hSw; (try dsimp only at hSw); go_simp; try with_reducible rfl)
    simp only [Act.put, List.setIfInBounds_toArray, List.set_cons_zero, List.set_cons_succ]
    refine wpAnyH_ready (rs := [6]) (by kernel_rfl) (by simp) ?_
    refine AllReadyH.cons (o := ⟨some 18, _, _, _, _, _⟩) rfl (fun K hK => ?_) AllReadyH.nil
    go_simp
    go_at_call 32; refine (HReg.out _).mono ?_; rintro e w' ⟨rfl, m2, rfl⟩
    refine hK.out _ _ (by (try dsimp only); exact ⟨n1, n2⟩) ?_
    clear hK K hHeld
    intro hHeld
    try simp only [Act.put, List.setIfInBounds_toArray, List.set_cons_zero, List.set_cons_succ]
    refine wpAnyH_take (i := 7) (oi := ⟨some 19, _, _, _, _, _⟩) (v := ?_) rfl (by kernel_rfl) (by kernel_rfl) (by kernel_rfl) (fun _ _ _ h => h) (Or.inl ⟨by rfl, ?_⟩) (by assumption) ?_
    rotate_left
    · (intro w hSw; (try dsimp only at hSw); go_simp; try with_reducible rfl)
    simp only [Act.put, List.setIfInBounds_toArray, List.set_cons_zero, List.set_cons_succ]
    refine wpAnyH_take (i := 9) (oi := ⟨some 21, _, _, _, _, _⟩) (v := ?_) rfl (by kernel_rfl) (by kernel_rfl) (by kernel_rfl) (fun _ _ _ h => h) (Or.inl ⟨by rfl, ?_⟩) (by assumption) ?_
    rotate_left
    · (intro w hSw; (try dsimp only at hSw); go_simp; try with_reducible rfl)
    simp only [Act.put, List.setIfInBounds_toArray, List.set_cons_zero, List.set_cons_succ]
    refine wpAnyH_take (i := 10) (oi := ⟨some 2, _, _, _, _, _⟩) (v := ?_) rfl (by kernel_rfl) (by kernel_rfl) (by kernel_rfl) (fun _ _ _ h => h) (Or.inl ⟨by rfl, ?_⟩) (by assumption) ?_
    rotate_left
    · (intro w hSw; (try dsimp only at hSw); go_simp; try with_reducible rfl)
    simp only [Act.put, List.setIfInBounds_toArray, List.set_cons_zero, List.set_cons_succ]
    refine wpAnyH_done (by kernel_rfl) ?_ _
    go_wp2_with fail
    go_ret
    exact ⟨by rw [HF.out]; rfl, by repeat (first | exact HB.out | refine below_drewN ?_ _ | refine Below.drew ?_)⟩
  by_cases k2 : k = 2
  · subst k2
    obtain ⟨AV, hAV⟩ : ∃ A : List UInt8, A = [61] ++ X4 := ⟨_, rfl⟩
    have hcatv : ∀ wx : World, (Op.stringOp .add { data := #[61] } (ba X4)).run Try.prog wx = .ok (.string (ba AV)) wx := cat_bb (P := Try.prog) [61] X4 AV hAV (by simp; omega)
    have bV : AV.length ≤ 67 := by rw [hAV]; simp; omega
    obtain ⟨A1, hA1⟩ : ∃ A : List UInt8, A = [91] ++ X3 := ⟨_, rfl⟩
    have hcat1 : ∀ wx : World, (Op.stringOp .add { data := #[91] } (ba X3)).run Try.prog wx = .ok (.string (ba A1)) wx := cat_bb (P := Try.prog) [91] X3 A1 hA1 (by simp; omega)
    obtain ⟨A2, hA2⟩ : ∃ A : List UInt8, A = A1 ++ [93] := ⟨_, rfl⟩
    have hcat2 : ∀ wx : World, (Op.stringOp .add (ba A1) { data := #[93] }).run Try.prog wx = .ok (.string (ba A2)) wx := cat_bb (P := Try.prog) A1 [93] A2 hA2 (by rw [hA1]; simp; omega)
    obtain ⟨A3, hA3⟩ : ∃ A : List UInt8, A = A2 ++ AV := ⟨_, rfl⟩
    have hcat3 : ∀ wx : World, (Op.stringOp .add (ba A2) (ba AV)).run Try.prog wx = .ok (.string (ba A3)) wx := cat_bb (P := Try.prog) A2 AV A3 hA3 (by rw [hA2]; rw [hA1]; simp; omega)
    have HA := Lib.hid (show A3 = [91] ++ X3 ++ [93, 61] ++ X4 by rw [hA3, hA2, hA1, hAV]; simp)
    clear hAV hA1 hA2 hA3 bV
    have HF := Lib.hid (show R = A3 by rw [HV.out, HA.out]; rfl)
    clear HV HA HI HR HRA
    go_enter Try.func12, Try.ntmps12
    go_wp2_with fail
    refine (HHex.out _).mono ?_
    rintro e w' ⟨rfl, m, rfl⟩
    go_wp2_with fail
    refine (HHexA.out _).mono ?_
    rintro e w' ⟨rfl, m', rfl⟩
    go_wp2_with fail
    go_ret
    exact ⟨by rw [HF.out]; rfl, below_drewN HB.out _⟩
  by_cases k3 : k = 3
  · subst k3
    obtain ⟨AV, hAV⟩ : ∃ A : List UInt8, A = [61] ++ X4 := ⟨_, rfl⟩
    have hcatv : ∀ wx : World, (Op.stringOp .add { data := #[61] } (ba X4)).run Try.prog wx = .ok (.string (ba AV)) wx := cat_bb (P := Try.prog) [61] X4 AV hAV (by simp; omega)
    have bV : AV.length ≤ 67 := by rw [hAV]; simp; omega
    obtain ⟨A1, hA1⟩ : ∃ A : List UInt8, A = [102, 97, 117, 108, 116, 115, 32] ++ X1 := ⟨_, rfl⟩
    have hcat1 : ∀ wx : World, (Op.stringOp .add { data := #[102, 97, 117, 108, 116, 115, 32] } (ba X1)).run Try.prog wx = .ok (.string (ba A1)) wx := cat_bb (P := Try.prog) [102, 97, 117, 108, 116, 115, 32] X1 A1 hA1 (by simp; omega)
    obtain ⟨A2, hA2⟩ : ∃ A : List UInt8, A = A1 ++ AV := ⟨_, rfl⟩
    have hcat2 : ∀ wx : World, (Op.stringOp .add (ba A1) (ba AV)).run Try.prog wx = .ok (.string (ba A2)) wx := cat_bb (P := Try.prog) A1 AV A2 hA2 (by rw [hA1]; simp; omega)
    have HA := Lib.hid (show A2 = [102, 97, 117, 108, 116, 115, 32] ++ X1 ++ [61] ++ X4 by rw [hA2, hA1, hAV]; simp)
    clear hAV hA1 hA2 bV
    have HF := Lib.hid (show R = A2 by rw [HV.out, HA.out]; rfl)
    clear HV HA HI HR HRA
    go_enter Try.func12, Try.ntmps12
    go_wp2_with fail
    refine (HHex.out _).mono ?_
    rintro e w' ⟨rfl, m, rfl⟩
    go_wp2_with fail
    refine (HInt.out _).mono ?_
    rintro e w' ⟨rfl, m', rfl⟩
    go_wp2_with fail
    go_ret
    exact ⟨by rw [HF.out]; rfl, below_drewN HB.out _⟩
  have hcatv : ∀ wx : World, (Op.stringOp .add { data := #[61] } (ba X4)).run Try.prog wx = .ok (.string (ba ([61] ++ X4))) wx := cat_ba (P := Try.prog) [61] X4 (by simp; omega)
  by_cases k7 : k = 7
  · subst k7
    have HF := Lib.hid (show R = [116, 114, 117, 101] by rw [HV.out]; rfl)
    clear HV HI HR HRA
    go_enter Try.func12, Try.ntmps12
    go_wp2_with fail
    refine (HHex.out _).mono ?_
    rintro e w' ⟨rfl, m, rfl⟩
    go_wp2_with fail
    go_ret
    exact ⟨by rw [HF.out]; rfl, below_drewN HB.out _⟩
  by_cases k6 : k = 6
  · subst k6
    obtain rfl : ln = 1 := by have : wantN 6 = 1 := rfl; omega
    clear hwant hr1 hc1 hk7
    obtain ⟨u, rfl⟩ := List.length_eq_one_iff.1 hlen
    have hcu : countT u ≤ 1000 := by have := HLC.out; simp only [countL] at this; omega
    have HRU := Lib.hid (HRA.out u (by simp))
    go_enter Try.func12, Try.ntmps12
    go_wp2_with fail
    refine (HHexB.out _).mono ?_
    rintro e w1 ⟨rfl, hbx⟩
    have HB1 := Lib.hid (below_trans HB.out hbx)
    have n0 := cell_below n0 hbx
    have n5 := cell_below n5 hbx
    have hpart := (HR.out.below hbx).part (j := 0) (by simp)
    simp only [List.getElem_cons_zero, List.getElem_cons_succ, Nat.zero_mul, Nat.one_mul, Nat.add_zero] at hpart
    obtain ⟨g, off, j0, j1, j2, j3, j4, jp, jl, jc, rfl, c0, c1, c2, c3, c4, c5, hu⟩ := hpart
    have hlu := print_len u (CT.At.fits _ _ hu)
    have hil := innerL_len 3 (levelT u, printT u)
    simp only at hil
    have HC := Lib.hid (wrap_any u (HI.out u (by simp)) cores [4, 5] (by simp) w1.heap.size _ _ _ hcu HRU.out (hu.below (below_alloc (Below.refl _ _) (.cells #[.int .i64 4, .int .i64 5] 3))) (Blk.new w1 3 [.int .i64 4, .int .i64 5]))
    rw [(wrap_three u _).2] at HC
    have HV2 := Lib.hid (show R = [126] ++ innerL 3 (levelT u, printT u) from by rw [HV.out]; rfl)
    have HB2 := Lib.hid (below_trans HB1.out (below_alloc (Below.refl _ _) (.cells #[.int .i64 4, .int .i64 5] 3)))
    clear hu HI HV HR HRA
    generalize innerL 3 (levelT u, printT u) = X at *
    obtain ⟨A1, hA1⟩ : ∃ A : List UInt8, A = [126] ++ X := ⟨_, rfl⟩
    have hcat1 : ∀ wx : World, (Op.stringOp .add { data := #[126] } (ba X)).run Try.prog wx = .ok (.string (ba A1)) wx := cat_bb (P := Try.prog) [126] X A1 hA1 (by simp; omega)
    have HA := Lib.hid (show R = A1 by rw [hA1, HV2.out])
    clear hA1 HV2
    go_wp2_with fail
    refine (HC.out).mono ?_
    rintro e w3 ⟨rfl, hb⟩
    have HB3 := Lib.hid (below_trans HB2.out hb)
    clear hb HC
    go_wp2_with fail
    go_ret
    exact ⟨by rw [HA.out]; rfl, HB3.out⟩
  by_cases k4 : k = 4
  · subst k4
    obtain rfl : ln = 2 := by have : wantN 4 = 2 := rfl; omega
    clear hwant hr1 hc1 hk7
    obtain ⟨u, t, rfl⟩ := list2 hlen
    have hcc := HLC.out
    simp only [countL] at hcc
    have hcu : countT u ≤ 1000 := by omega
    have hct : countT t ≤ 1000 := by omega
    have HRU := Lib.hid (HRA.out u (by simp))
    have HRT := Lib.hid (HRA.out t (by simp))
    go_enter Try.func12, Try.ntmps12
    go_wp2_with fail
    refine (HHexB.out _).mono ?_
    rintro e w1 ⟨rfl, hbx⟩
    have HB1 := Lib.hid (below_trans HB.out hbx)
    have n0 := cell_below n0 hbx
    have n5 := cell_below n5 hbx
    have hpart := (HR.out.below hbx).part (j := 0) (by simp)
    simp only [List.getElem_cons_zero, List.getElem_cons_succ, Nat.zero_mul, Nat.one_mul, Nat.add_zero] at hpart
    obtain ⟨g, off, j0, j1, j2, j3, j4, jp, jl, jc, rfl, c0, c1, c2, c3, c4, c5, hu⟩ := hpart
    have hpart := (HR.out.below hbx).part (j := 1) (by simp)
    simp only [List.getElem_cons_zero, List.getElem_cons_succ, Nat.zero_mul, Nat.one_mul, Nat.add_zero] at hpart
    obtain ⟨g2, off2, i0, i1, i2, i3, i4, ip, il, ic, hgo, d0, d1, d2, d3, d4, d5, ht⟩ := hpart
    injection hgo with hgo
    injection hgo with hg1 hg2
    subst hg1 hg2
    have hlu := print_len u (CT.At.fits _ _ hu)
    have hlt := print_len t (CT.At.fits _ _ ht)
    have hil := innerL_len 2 (levelT u, printT u)
    have hjl := innerL_len 3 (levelT t, printT t)
    simp only at hil hjl
    have HU := Lib.hid hu
    have HT := Lib.hid ht
    have HV2 := Lib.hid (show R = innerL 2 (levelT u, printT u) ++ [32, 47, 92, 32] ++ innerL 3 (levelT t, printT t) from by rw [HV.out]; rfl)
    clear hu ht HV HR HRA
    obtain ⟨A1, hA1⟩ : ∃ A : List UInt8, A = innerL 2 (levelT u, printT u) ++ [32, 47, 92, 32] := ⟨_, rfl⟩
    have hcat1 : ∀ wx : World, (Op.stringOp .add (ba (innerL 2 (levelT u, printT u))) { data := #[32, 47, 92, 32] }).run Try.prog wx = .ok (.string (ba A1)) wx := cat_bb (P := Try.prog) _ [32, 47, 92, 32] A1 hA1 (by simp; omega)
    obtain ⟨A2, hA2⟩ : ∃ A : List UInt8, A = A1 ++ innerL 3 (levelT t, printT t) := ⟨_, rfl⟩
    have hcat2 : ∀ wx : World, (Op.stringOp .add (ba A1) (ba (innerL 3 (levelT t, printT t)))).run Try.prog wx = .ok (.string (ba A2)) wx := cat_bb (P := Try.prog) A1 _ A2 hA2 (by rw [hA1]; simp; omega)
    have HA := Lib.hid (show R = A2 by rw [HV2.out, hA2, hA1])
    clear hA1 hA2 HV2
    have bw0 := Below.refl w1.heap.size w1
    go_wp2_with fail
    refine wp_region_held_drew (S := (fun w' => w'.cell? ⟨w.heap.size, 5, none⟩ = some (.slice (some ⟨g, off, none⟩) 2 cap) ∧ w'.cell? ⟨g, off, none⟩ = some (.int .i64 j0) ∧ w'.cell? ⟨g, off + 1, none⟩ = some (.int .i64 j1) ∧ w'.cell? ⟨g, off + 2, none⟩ = some (.int .i64 j2) ∧ w'.cell? ⟨g, off + 3, none⟩ = some (.int .u64 j3) ∧ w'.cell? ⟨g, off + 4, none⟩ = some (.int .u64 j4) ∧ w'.cell? ⟨g, off + 5, none⟩ = some (.slice jp jl jc) ∧ w'.cell? ⟨g, off + 6, none⟩ = some (.int .i64 i0) ∧ w'.cell? ⟨g, off + 6 + 1, none⟩ = some (.int .i64 i1) ∧ w'.cell? ⟨g, off + 6 + 2, none⟩ = some (.int .i64 i2) ∧ w'.cell? ⟨g, off + 6 + 3, none⟩ = some (.int .u64 i3) ∧ w'.cell? ⟨g, off + 6 + 4, none⟩ = some (.int .u64 i4) ∧ w'.cell? ⟨g, off + 6 + 5, none⟩ = some (.slice ip il ic))) (by kernel_rfl) (by (try dsimp only); exact ⟨cell_below n5 bw0.drew, cell_below c0 bw0.drew, cell_below c1 bw0.drew, cell_below c2 bw0.drew, cell_below c3 bw0.drew, cell_below c4 bw0.drew, cell_below c5 bw0.drew, cell_below d0 bw0.drew, cell_below d1 bw0.drew, cell_below d2 bw0.drew, cell_below d3 bw0.drew, cell_below d4 bw0.drew, cell_below d5 bw0.drew⟩) (fun hHeld => ?_)
    refine wpAnyH_take (i := 0) (oi := ⟨some 50, _, _, _, _, _⟩) (v := ?_) rfl (by kernel_rfl) (by kernel_rfl) (by kernel_rfl) (fun _ _ _ h => h) (Or.inl ⟨by rfl, ?_⟩) (by assumption) ?_
    rotate_left
    · (intro w hSw; (try dsimp only at hSw); go_simp; try with_reducible rfl)
    simp only [Act.put, List.setIfInBounds_toArray, List.set_cons_zero, List.set_cons_succ]
    refine wpAnyH_take (i := 1) (oi := ⟨some 51, _, _, _, _, _⟩) (v := ?_) rfl (by kernel_rfl) (by kernel_rfl) (by kernel_rfl) (fun _ _ _ h => h) (Or.inl ⟨by rfl, ?_⟩) (by assumption) ?_
    rotate_left
    · (intro w hSw; (try dsimp only at hSw); go_simp; try with_reducible rfl)
    simp only [Act.put, List.setIfInBounds_toArray, List.set_cons_zero, List.set_cons_succ]
    refine wpAnyH_take (i := 2) (oi := ⟨some 52, _, _, _, _, _⟩) (v := ?_) rfl (by kernel_rfl) (by kernel_rfl) (by kernel_rfl) (fun _ _ _ h => h) (Or.inl ⟨by rfl, ?_⟩) (by assumption) ?_
    rotate_left
    · (intro w hSw; (try dsimp only at hSw); go_simp; try with_reducible rfl)
    simp only [Act.put, List.setIfInBounds_toArray, List.set_cons_zero, List.set_cons_succ]
    refine wpAnyH_take (i := 3) (oi := ⟨some 53, _, _, _, _, _⟩) (v := ?_) rfl (by kernel_rfl) (by kernel_rfl) (by kernel_rfl) (fun _ _ _ h => h) (Or.inl ⟨by rfl, ?_⟩) (by assumption) ?_
    rotate_left
    · (intro w hSw; (try dsimp only at hSw); go_simp; try with_reducible rfl)
    simp only [Act.put, List.setIfInBounds_toArray, List.set_cons_zero, List.set_cons_succ]
    refine wpAnyH_take (i := 7) (oi := ⟨some 57, _, _, _, _, _⟩) (v := ?_) rfl (by kernel_rfl) (by kernel_rfl) (by kernel_rfl) (fun _ _ _ h => h) (Or.inl ⟨by rfl, ?_⟩) (by assumption) ?_
    rotate_left
    · (intro w hSw; (try dsimp only at hSw); go_simp; try with_reducible rfl)
    simp only [Act.put, List.setIfInBounds_toArray, List.set_cons_zero, List.set_cons_succ]
    refine wpAnyH_take (i := 8) (oi := ⟨some 58, _, _, _, _, _⟩) (v := ?_) rfl (by kernel_rfl) (by kernel_rfl) (by kernel_rfl) (fun _ _ _ h => h) (Or.inl ⟨by rfl, ?_⟩) (by assumption) ?_
    rotate_left
    · (intro w hSw; (try dsimp only at hSw); go_simp; try with_reducible rfl)
    simp only [Act.put, List.setIfInBounds_toArray, List.set_cons_zero, List.set_cons_succ]
    refine wpAnyH_take (i := 9) (oi := ⟨some 59, _, _, _, _, _⟩) (v := ?_) rfl (by kernel_rfl) (by kernel_rfl) (by kernel_rfl) (fun _ _ _ h => h) (Or.inl ⟨by rfl, ?_⟩) (by assumption) ?_
    rotate_left
    · (intro w hSw; (try dsimp only at hSw); go_simp; try with_reducible rfl)
    simp only [Act.put, List.setIfInBounds_toArray, List.set_cons_zero, List.set_cons_succ]
    refine wpAnyH_take (i := 10) (oi := ⟨some 60, _, _, _, _, _⟩) (v := ?_) rfl (by kernel_rfl) (by kernel_rfl) (by kernel_rfl) (fun _ _ _ h => h) (Or.inl ⟨by rfl, ?_⟩) (by assumption) ?_
    rotate_left
    · (intro w hSw; (try dsimp only at hSw); go_simp; try with_reducible rfl)
    simp only [Act.put, List.setIfInBounds_toArray, List.set_cons_zero, List.set_cons_succ]
    refine wpAnyH_ready (rs := [4, 11]) (by kernel_rfl) (by simp) ?_
    refine AllReadyH.cons (o := ⟨some 54, _, _, _, _, _⟩) rfl (fun K hK => ?_) ?_
    · go_simp
      have bw1 := below_alloc bw0 (.cells #[.int .i64 5] 3)
      have k1_1 : Blk ((w1).alloc (.cells #[.int .i64 5] 3)) 3 (w1.heap.size) [.int .i64 5] := by simpa using Blk.new (w1) 3 [.int .i64 5]
      refine hK.out _ _ (by (try dsimp only); exact ⟨cell_below n5 bw1.drew, cell_below c0 bw1.drew, cell_below c1 bw1.drew, cell_below c2 bw1.drew, cell_below c3 bw1.drew, cell_below c4 bw1.drew, cell_below c5 bw1.drew, cell_below d0 bw1.drew, cell_below d1 bw1.drew, cell_below d2 bw1.drew, cell_below d3 bw1.drew, cell_below d4 bw1.drew, cell_below d5 bw1.drew⟩) ?_
      clear hK K hHeld
      intro hHeld
      try simp only [Act.put, List.setIfInBounds_toArray, List.set_cons_zero, List.set_cons_succ]
      refine wpAnyH_ready (rs := [5, 11]) (by kernel_rfl) (by simp) ?_
      refine AllReadyH.cons (o := ⟨some 55, _, _, _, _, _⟩) rfl (fun K hK => ?_) ?_
      · go_simp
        go_at_call 33
        have hcx := wrap_any u (HI.out u (by simp)) cores [5] (by simp) _ _ _ _ hcu HRU.out (HU.out.below bw1.drew) (blk_drew k1_1)
        rw [wrap_two] at hcx
        refine hcx.mono ?_
        clear hcx
        rintro e w2 ⟨rfl, hb⟩
        have bw2 := below_trans bw1.drew hb
        have k1_2 := Blk.below (blk_drew k1_1) hb
        clear hb
        refine hK.out _ _ (by (try dsimp only); exact ⟨cell_below n5 bw2, cell_below c0 bw2, cell_below c1 bw2, cell_below c2 bw2, cell_below c3 bw2, cell_below c4 bw2, cell_below c5 bw2, cell_below d0 bw2, cell_below d1 bw2, cell_below d2 bw2, cell_below d3 bw2, cell_below d4 bw2, cell_below d5 bw2⟩) ?_
        clear hK K hHeld
        intro hHeld
        try simp only [Act.put, List.setIfInBounds_toArray, List.set_cons_zero, List.set_cons_succ]
        refine wpAnyH_take (i := 6) (oi := ⟨some 56, _, _, _, _, _⟩) (v := ?_) rfl (by kernel_rfl) (by kernel_rfl) (by kernel_rfl) (fun _ _ _ h => h) (Or.inl ⟨by rfl, ?_⟩) (by assumption) ?_
        rotate_left
        · (intro w hSw; (try dsimp only at hSw); go_simp; try with_reducible rfl)
        simp only [Act.put, List.setIfInBounds_toArray, List.set_cons_zero, List.set_cons_succ]
        refine wpAnyH_ready (rs := [11]) (by kernel_rfl) (by simp) ?_
        refine AllReadyH.cons (o := ⟨some 61, _, _, _, _, _⟩) rfl (fun K hK => ?_) AllReadyH.nil
        go_simp
        have bw3 := below_alloc bw2 (.cells #[.int .i64 5, .int .i64 4] 3)
        have k1_3 := Blk.alloc k1_2 (.cells #[.int .i64 5, .int .i64 4] 3)
        have k2_3 : Blk ((w2).alloc (.cells #[.int .i64 5, .int .i64 4] 3)) 3 (w2.heap.size) [.int .i64 5, .int .i64 4] := by simpa using Blk.new (w2) 3 [.int .i64 5, .int .i64 4]
        refine hK.out _ _ (by (try dsimp only); exact ⟨cell_below n5 bw3, cell_below c0 bw3, cell_below c1 bw3, cell_below c2 bw3, cell_below c3 bw3, cell_below c4 bw3, cell_below c5 bw3, cell_below d0 bw3, cell_below d1 bw3, cell_below d2 bw3, cell_below d3 bw3, cell_below d4 bw3, cell_below d5 bw3⟩) ?_
        clear hK K hHeld
        intro hHeld
        try simp only [Act.put, List.setIfInBounds_toArray, List.set_cons_zero, List.set_cons_succ]
        refine wpAnyH_ready (rs := [12]) (by kernel_rfl) (by simp) ?_
        refine AllReadyH.cons (o := ⟨some 62, _, _, _, _, _⟩) rfl (fun K hK => ?_) AllReadyH.nil
        go_simp
        go_at_call 33
        have hcx := wrap_any t (HI.out t (by simp)) cores [5, 4] (by simp) _ _ _ _ hct HRT.out (HT.out.below bw3) k2_3
        rw [(wrap_three t _).1] at hcx
        refine hcx.mono ?_
        clear hcx
        rintro e w4 ⟨rfl, hb⟩
        have bw4 := below_trans bw3 hb
        have k1_4 := Blk.below k1_3 hb
        have k2_4 := Blk.below k2_3 hb
        clear hb
        refine hK.out _ _ (by (try dsimp only); exact ⟨cell_below n5 bw4, cell_below c0 bw4, cell_below c1 bw4, cell_below c2 bw4, cell_below c3 bw4, cell_below c4 bw4, cell_below c5 bw4, cell_below d0 bw4, cell_below d1 bw4, cell_below d2 bw4, cell_below d3 bw4, cell_below d4 bw4, cell_below d5 bw4⟩) ?_
        clear hK K hHeld
        intro hHeld
        try simp only [Act.put, List.setIfInBounds_toArray, List.set_cons_zero, List.set_cons_succ]
        refine wpAnyH_take (i := 13) (oi := ⟨some 63, _, _, _, _, _⟩) (v := ?_) rfl (by kernel_rfl) (by kernel_rfl) (by kernel_rfl) (fun _ _ _ h => h) (Or.inl ⟨by rfl, ?_⟩) (by assumption) ?_
        rotate_left
        · (intro w hSw; (try dsimp only at hSw); go_simp; try with_reducible rfl)
        simp only [Act.put, List.setIfInBounds_toArray, List.set_cons_zero, List.set_cons_succ]
        refine wpAnyH_take (i := 14) (oi := ⟨some 2, _, _, _, _, _⟩) (v := ?_) rfl (by kernel_rfl) (by kernel_rfl) (by kernel_rfl) (fun _ _ _ h => h) (Or.inl ⟨by rfl, ?_⟩) (by assumption) ?_
        rotate_left
        · (intro w hSw; (try dsimp only at hSw); go_simp; try with_reducible rfl)
        simp only [Act.put, List.setIfInBounds_toArray, List.set_cons_zero, List.set_cons_succ]
        refine wpAnyH_done (by kernel_rfl) ?_ _
        go_wp2_with fail
        go_ret
        exact ⟨by rw [HA.out]; rfl, below_trans HB1.out bw4⟩
      refine AllReadyH.cons (o := ⟨some 61, _, _, _, _, _⟩) rfl (fun K hK => ?_) ?_
      · go_simp
        have bw5 := below_alloc bw1 (.cells #[.int .i64 5, .int .i64 4] 3)
        have k1_5 := Blk.alloc k1_1 (.cells #[.int .i64 5, .int .i64 4] 3)
        have k2_5 : Blk ((((w1).alloc (.cells #[.int .i64 5] 3))).alloc (.cells #[.int .i64 5, .int .i64 4] 3)) 3 (w1.heap.size + 1) [.int .i64 5, .int .i64 4] := by simpa using Blk.new (((w1).alloc (.cells #[.int .i64 5] 3))) 3 [.int .i64 5, .int .i64 4]
        refine hK.out _ _ (by (try dsimp only); exact ⟨cell_below n5 bw5.drew, cell_below c0 bw5.drew, cell_below c1 bw5.drew, cell_below c2 bw5.drew, cell_below c3 bw5.drew, cell_below c4 bw5.drew, cell_below c5 bw5.drew, cell_below d0 bw5.drew, cell_below d1 bw5.drew, cell_below d2 bw5.drew, cell_below d3 bw5.drew, cell_below d4 bw5.drew, cell_below d5 bw5.drew⟩) ?_
        clear hK K hHeld
        intro hHeld
        try simp only [Act.put, List.setIfInBounds_toArray, List.set_cons_zero, List.set_cons_succ]
        refine wpAnyH_ready (rs := [5]) (by kernel_rfl) (by simp) ?_
        refine AllReadyH.cons (o := ⟨some 55, _, _, _, _, _⟩) rfl (fun K hK => ?_) AllReadyH.nil
        go_simp
        go_at_call 33
        have hcx := wrap_any u (HI.out u (by simp)) cores [5] (by simp) _ _ _ _ hcu HRU.out (HU.out.below bw5.drew) (blk_drew k1_5)
        rw [wrap_two] at hcx
        refine hcx.mono ?_
        clear hcx
        rintro e w6 ⟨rfl, hb⟩
        have bw6 := below_trans bw5.drew hb
        have k1_6 := Blk.below (blk_drew k1_5) hb
        have k2_6 := Blk.below (blk_drew k2_5) hb
        clear hb
        refine hK.out _ _ (by (try dsimp only); exact ⟨cell_below n5 bw6, cell_below c0 bw6, cell_below c1 bw6, cell_below c2 bw6, cell_below c3 bw6, cell_below c4 bw6, cell_below c5 bw6, cell_below d0 bw6, cell_below d1 bw6, cell_below d2 bw6, cell_below d3 bw6, cell_below d4 bw6, cell_below d5 bw6⟩) ?_
        clear hK K hHeld
        intro hHeld
        try simp only [Act.put, List.setIfInBounds_toArray, List.set_cons_zero, List.set_cons_succ]
        refine wpAnyH_take (i := 6) (oi := ⟨some 56, _, _, _, _, _⟩) (v := ?_) rfl (by kernel_rfl) (by kernel_rfl) (by kernel_rfl) (fun _ _ _ h => h) (Or.inl ⟨by rfl, ?_⟩) (by assumption) ?_
        rotate_left
        · (intro w hSw; (try dsimp only at hSw); go_simp; try with_reducible rfl)
        simp only [Act.put, List.setIfInBounds_toArray, List.set_cons_zero, List.set_cons_succ]
        refine wpAnyH_ready (rs := [12]) (by kernel_rfl) (by simp) ?_
        refine AllReadyH.cons (o := ⟨some 62, _, _, _, _, _⟩) rfl (fun K hK => ?_) AllReadyH.nil
        go_simp
        go_at_call 33
        have hcx := wrap_any t (HI.out t (by simp)) cores [5, 4] (by simp) _ _ _ _ hct HRT.out (HT.out.below bw6) k2_6
        rw [(wrap_three t _).1] at hcx
        refine hcx.mono ?_
        clear hcx
        rintro e w7 ⟨rfl, hb⟩
        have bw7 := below_trans bw6 hb
        have k1_7 := Blk.below k1_6 hb
        have k2_7 := Blk.below k2_6 hb
        clear hb
        refine hK.out _ _ (by (try dsimp only); exact ⟨cell_below n5 bw7, cell_below c0 bw7, cell_below c1 bw7, cell_below c2 bw7, cell_below c3 bw7, cell_below c4 bw7, cell_below c5 bw7, cell_below d0 bw7, cell_below d1 bw7, cell_below d2 bw7, cell_below d3 bw7, cell_below d4 bw7, cell_below d5 bw7⟩) ?_
        clear hK K hHeld
        intro hHeld
        try simp only [Act.put, List.setIfInBounds_toArray, List.set_cons_zero, List.set_cons_succ]
        refine wpAnyH_take (i := 13) (oi := ⟨some 63, _, _, _, _, _⟩) (v := ?_) rfl (by kernel_rfl) (by kernel_rfl) (by kernel_rfl) (fun _ _ _ h => h) (Or.inl ⟨by rfl, ?_⟩) (by assumption) ?_
        rotate_left
        · (intro w hSw; (try dsimp only at hSw); go_simp; try with_reducible rfl)
        simp only [Act.put, List.setIfInBounds_toArray, List.set_cons_zero, List.set_cons_succ]
        refine wpAnyH_take (i := 14) (oi := ⟨some 2, _, _, _, _, _⟩) (v := ?_) rfl (by kernel_rfl) (by kernel_rfl) (by kernel_rfl) (fun _ _ _ h => h) (Or.inl ⟨by rfl, ?_⟩) (by assumption) ?_
        rotate_left
        · (intro w hSw; (try dsimp only at hSw); go_simp; try with_reducible rfl)
        simp only [Act.put, List.setIfInBounds_toArray, List.set_cons_zero, List.set_cons_succ]
        refine wpAnyH_done (by kernel_rfl) ?_ _
        go_wp2_with fail
        go_ret
        exact ⟨by rw [HA.out]; rfl, below_trans HB1.out bw7⟩
      exact AllReadyH.nil
    refine AllReadyH.cons (o := ⟨some 61, _, _, _, _, _⟩) rfl (fun K hK => ?_) ?_
    · go_simp
      have bw8 := below_alloc bw0 (.cells #[.int .i64 5, .int .i64 4] 3)
      have k2_8 : Blk ((w1).alloc (.cells #[.int .i64 5, .int .i64 4] 3)) 3 (w1.heap.size) [.int .i64 5, .int .i64 4] := by simpa using Blk.new (w1) 3 [.int .i64 5, .int .i64 4]
      refine hK.out _ _ (by (try dsimp only); exact ⟨cell_below n5 bw8.drew, cell_below c0 bw8.drew, cell_below c1 bw8.drew, cell_below c2 bw8.drew, cell_below c3 bw8.drew, cell_below c4 bw8.drew, cell_below c5 bw8.drew, cell_below d0 bw8.drew, cell_below d1 bw8.drew, cell_below d2 bw8.drew, cell_below d3 bw8.drew, cell_below d4 bw8.drew, cell_below d5 bw8.drew⟩) ?_
      clear hK K hHeld
      intro hHeld
      try simp only [Act.put, List.setIfInBounds_toArray, List.set_cons_zero, List.set_cons_succ]
      refine wpAnyH_ready (rs := [4]) (by kernel_rfl) (by simp) ?_
      refine AllReadyH.cons (o := ⟨some 54, _, _, _, _, _⟩) rfl (fun K hK => ?_) AllReadyH.nil
      go_simp
      have bw9 := below_alloc bw8 (.cells #[.int .i64 5] 3)
      have k2_9 := Blk.alloc k2_8 (.cells #[.int .i64 5] 3)
      have k1_9 : Blk ((((w1).alloc (.cells #[.int .i64 5, .int .i64 4] 3))).alloc (.cells #[.int .i64 5] 3)) 3 (w1.heap.size + 1) [.int .i64 5] := by simpa using Blk.new (((w1).alloc (.cells #[.int .i64 5, .int .i64 4] 3))) 3 [.int .i64 5]
      refine hK.out _ _ (by (try dsimp only); exact ⟨cell_below n5 bw9.drew, cell_below c0 bw9.drew, cell_below c1 bw9.drew, cell_below c2 bw9.drew, cell_below c3 bw9.drew, cell_below c4 bw9.drew, cell_below c5 bw9.drew, cell_below d0 bw9.drew, cell_below d1 bw9.drew, cell_below d2 bw9.drew, cell_below d3 bw9.drew, cell_below d4 bw9.drew, cell_below d5 bw9.drew⟩) ?_
      clear hK K hHeld
      intro hHeld
      try simp only [Act.put, List.setIfInBounds_toArray, List.set_cons_zero, List.set_cons_succ]
      refine wpAnyH_ready (rs := [5]) (by kernel_rfl) (by simp) ?_
      refine AllReadyH.cons (o := ⟨some 55, _, _, _, _, _⟩) rfl (fun K hK => ?_) AllReadyH.nil
      go_simp
      go_at_call 33
      have hcx := wrap_any u (HI.out u (by simp)) cores [5] (by simp) _ _ _ _ hcu HRU.out (HU.out.below bw9.drew) (blk_drew k1_9)
      rw [wrap_two] at hcx
      refine hcx.mono ?_
      clear hcx
      rintro e w10 ⟨rfl, hb⟩
      have bw10 := below_trans bw9.drew hb
      have k1_10 := Blk.below (blk_drew k1_9) hb
      have k2_10 := Blk.below (blk_drew k2_9) hb
      clear hb
      refine hK.out _ _ (by (try dsimp only); exact ⟨cell_below n5 bw10, cell_below c0 bw10, cell_below c1 bw10, cell_below c2 bw10, cell_below c3 bw10, cell_below c4 bw10, cell_below c5 bw10, cell_below d0 bw10, cell_below d1 bw10, cell_below d2 bw10, cell_below d3 bw10, cell_below d4 bw10, cell_below d5 bw10⟩) ?_
      clear hK K hHeld
      intro hHeld
      try simp only [Act.put, List.setIfInBounds_toArray, List.set_cons_zero, List.set_cons_succ]
      refine wpAnyH_take (i := 6) (oi := ⟨some 56, _, _, _, _, _⟩) (v := ?_) rfl (by kernel_rfl) (by kernel_rfl) (by kernel_rfl) (fun _ _ _ h => h) (Or.inl ⟨by rfl, ?_⟩) (by assumption) ?_
      rotate_left
      · (intro w hSw; (try dsimp only at hSw); go_simp; try with_reducible rfl)
      simp only [Act.put, List.setIfInBounds_toArray, List.set_cons_zero, List.set_cons_succ]
      refine wpAnyH_ready (rs := [12]) (by kernel_rfl) (by simp) ?_
      refine AllReadyH.cons (o := ⟨some 62, _, _, _, _, _⟩) rfl (fun K hK => ?_) AllReadyH.nil
      go_simp
      go_at_call 33
      have hcx := wrap_any t (HI.out t (by simp)) cores [5, 4] (by simp) _ _ _ _ hct HRT.out (HT.out.below bw10) k2_10
      rw [(wrap_three t _).1] at hcx
      refine hcx.mono ?_
      clear hcx
      rintro e w11 ⟨rfl, hb⟩
      have bw11 := below_trans bw10 hb
      have k1_11 := Blk.below k1_10 hb
      have k2_11 := Blk.below k2_10 hb
      clear hb
      refine hK.out _ _ (by (try dsimp only); exact ⟨cell_below n5 bw11, cell_below c0 bw11, cell_below c1 bw11, cell_below c2 bw11, cell_below c3 bw11, cell_below c4 bw11, cell_below c5 bw11, cell_below d0 bw11, cell_below d1 bw11, cell_below d2 bw11, cell_below d3 bw11, cell_below d4 bw11, cell_below d5 bw11⟩) ?_
      clear hK K hHeld
      intro hHeld
      try simp only [Act.put, List.setIfInBounds_toArray, List.set_cons_zero, List.set_cons_succ]
      refine wpAnyH_take (i := 13) (oi := ⟨some 63, _, _, _, _, _⟩) (v := ?_) rfl (by kernel_rfl) (by kernel_rfl) (by kernel_rfl) (fun _ _ _ h => h) (Or.inl ⟨by rfl, ?_⟩) (by assumption) ?_
      rotate_left
      · (intro w hSw; (try dsimp only at hSw); go_simp; try with_reducible rfl)
      simp only [Act.put, List.setIfInBounds_toArray, List.set_cons_zero, List.set_cons_succ]
      refine wpAnyH_take (i := 14) (oi := ⟨some 2, _, _, _, _, _⟩) (v := ?_) rfl (by kernel_rfl) (by kernel_rfl) (by kernel_rfl) (fun _ _ _ h => h) (Or.inl ⟨by rfl, ?_⟩) (by assumption) ?_
      rotate_left
      · (intro w hSw; (try dsimp only at hSw); go_simp; try with_reducible rfl)
      simp only [Act.put, List.setIfInBounds_toArray, List.set_cons_zero, List.set_cons_succ]
      refine wpAnyH_done (by kernel_rfl) ?_ _
      go_wp2_with fail
      go_ret
      exact ⟨by rw [HA.out]; rfl, below_trans HB1.out bw11⟩
    exact AllReadyH.nil
  by_cases k5 : k = 5
  · subst k5
    obtain rfl : ln = 2 := by have : wantN 5 = 2 := rfl; omega
    clear hwant hr1 hc1 hk7
    obtain ⟨u, t, rfl⟩ := list2 hlen
    have hcc := HLC.out
    simp only [countL] at hcc
    have hcu : countT u ≤ 1000 := by omega
    have hct : countT t ≤ 1000 := by omega
    have HRU := Lib.hid (HRA.out u (by simp))
    have HRT := Lib.hid (HRA.out t (by simp))
    go_enter Try.func12, Try.ntmps12
    go_wp2_with fail
    refine (HHexB.out _).mono ?_
    rintro e w1 ⟨rfl, hbx⟩
    have HB1 := Lib.hid (below_trans HB.out hbx)
    have n0 := cell_below n0 hbx
    have n5 := cell_below n5 hbx
    have hpart := (HR.out.below hbx).part (j := 0) (by simp)
    simp only [List.getElem_cons_zero, List.getElem_cons_succ, Nat.zero_mul, Nat.one_mul, Nat.add_zero] at hpart
    obtain ⟨g, off, j0, j1, j2, j3, j4, jp, jl, jc, rfl, c0, c1, c2, c3, c4, c5, hu⟩ := hpart
    have hpart := (HR.out.below hbx).part (j := 1) (by simp)
    simp only [List.getElem_cons_zero, List.getElem_cons_succ, Nat.zero_mul, Nat.one_mul, Nat.add_zero] at hpart
    obtain ⟨g2, off2, i0, i1, i2, i3, i4, ip, il, ic, hgo, d0, d1, d2, d3, d4, d5, ht⟩ := hpart
    injection hgo with hgo
    injection hgo with hg1 hg2
    subst hg1 hg2
    have hlu := print_len u (CT.At.fits _ _ hu)
    have hlt := print_len t (CT.At.fits _ _ ht)
    have hil := innerL_len 1 (levelT u, printT u)
    have hjl := innerL_len 2 (levelT t, printT t)
    simp only at hil hjl
    have HU := Lib.hid hu
    have HT := Lib.hid ht
    have HV2 := Lib.hid (show R = innerL 1 (levelT u, printT u) ++ [32, 92, 47, 32] ++ innerL 2 (levelT t, printT t) from by rw [HV.out]; rfl)
    rw [inner_one] at HV2 hil
    clear hu ht HV HR HRA
    obtain ⟨A1, hA1⟩ : ∃ A : List UInt8, A = printT u ++ [32, 92, 47, 32] := ⟨_, rfl⟩
    have hcat1 : ∀ wx : World, (Op.stringOp .add (ba (printT u)) { data := #[32, 92, 47, 32] }).run Try.prog wx = .ok (.string (ba A1)) wx := cat_bb (P := Try.prog) _ [32, 92, 47, 32] A1 hA1 (by simp; omega)
    obtain ⟨A2, hA2⟩ : ∃ A : List UInt8, A = A1 ++ innerL 2 (levelT t, printT t) := ⟨_, rfl⟩
    have hcat2 : ∀ wx : World, (Op.stringOp .add (ba A1) (ba (innerL 2 (levelT t, printT t)))).run Try.prog wx = .ok (.string (ba A2)) wx := cat_bb (P := Try.prog) A1 _ A2 hA2 (by rw [hA1]; simp; omega)
    have HA := Lib.hid (show R = A2 by rw [HV2.out, hA2, hA1])
    clear hA1 hA2 HV2
    have bw0 := Below.refl w1.heap.size w1
    go_wp2_with fail
    refine wp_region_held_drew (S := (fun w' => w'.cell? ⟨w.heap.size, 5, none⟩ = some (.slice (some ⟨g, off, none⟩) 2 cap) ∧ w'.cell? ⟨g, off, none⟩ = some (.int .i64 j0) ∧ w'.cell? ⟨g, off + 1, none⟩ = some (.int .i64 j1) ∧ w'.cell? ⟨g, off + 2, none⟩ = some (.int .i64 j2) ∧ w'.cell? ⟨g, off + 3, none⟩ = some (.int .u64 j3) ∧ w'.cell? ⟨g, off + 4, none⟩ = some (.int .u64 j4) ∧ w'.cell? ⟨g, off + 5, none⟩ = some (.slice jp jl jc) ∧ w'.cell? ⟨g, off + 6, none⟩ = some (.int .i64 i0) ∧ w'.cell? ⟨g, off + 6 + 1, none⟩ = some (.int .i64 i1) ∧ w'.cell? ⟨g, off + 6 + 2, none⟩ = some (.int .i64 i2) ∧ w'.cell? ⟨g, off + 6 + 3, none⟩ = some (.int .u64 i3) ∧ w'.cell? ⟨g, off + 6 + 4, none⟩ = some (.int .u64 i4) ∧ w'.cell? ⟨g, off + 6 + 5, none⟩ = some (.slice ip il ic))) (by kernel_rfl) (by (try dsimp only); exact ⟨cell_below n5 bw0.drew, cell_below c0 bw0.drew, cell_below c1 bw0.drew, cell_below c2 bw0.drew, cell_below c3 bw0.drew, cell_below c4 bw0.drew, cell_below c5 bw0.drew, cell_below d0 bw0.drew, cell_below d1 bw0.drew, cell_below d2 bw0.drew, cell_below d3 bw0.drew, cell_below d4 bw0.drew, cell_below d5 bw0.drew⟩) (fun hHeld => ?_)
    refine wpAnyH_take (i := 0) (oi := ⟨some 66, _, _, _, _, _⟩) (v := ?_) rfl (by kernel_rfl) (by kernel_rfl) (by kernel_rfl) (fun _ _ _ h => h) (Or.inl ⟨by rfl, ?_⟩) (by assumption) ?_
    rotate_left
    · (intro w hSw; (try dsimp only at hSw); go_simp; try with_reducible rfl)
    simp only [Act.put, List.setIfInBounds_toArray, List.set_cons_zero, List.set_cons_succ]
    refine wpAnyH_take (i := 1) (oi := ⟨some 67, _, _, _, _, _⟩) (v := ?_) rfl (by kernel_rfl) (by kernel_rfl) (by kernel_rfl) (fun _ _ _ h => h) (Or.inl ⟨by rfl, ?_⟩) (by assumption) ?_
    rotate_left
    · (intro w hSw; (try dsimp only at hSw); go_simp; try with_reducible rfl)
    simp only [Act.put, List.setIfInBounds_toArray, List.set_cons_zero, List.set_cons_succ]
    refine wpAnyH_take (i := 2) (oi := ⟨some 68, _, _, _, _, _⟩) (v := ?_) rfl (by kernel_rfl) (by kernel_rfl) (by kernel_rfl) (fun _ _ _ h => h) (Or.inl ⟨by rfl, ?_⟩) (by assumption) ?_
    rotate_left
    · (intro w hSw; (try dsimp only at hSw); go_simp; try with_reducible rfl)
    simp only [Act.put, List.setIfInBounds_toArray, List.set_cons_zero, List.set_cons_succ]
    refine wpAnyH_take (i := 3) (oi := ⟨some 69, _, _, _, _, _⟩) (v := ?_) rfl (by kernel_rfl) (by kernel_rfl) (by kernel_rfl) (fun _ _ _ h => h) (Or.inl ⟨by rfl, ?_⟩) (by assumption) ?_
    rotate_left
    · (intro w hSw; (try dsimp only at hSw); go_simp; try with_reducible rfl)
    simp only [Act.put, List.setIfInBounds_toArray, List.set_cons_zero, List.set_cons_succ]
    refine wpAnyH_take (i := 6) (oi := ⟨some 72, _, _, _, _, _⟩) (v := ?_) rfl (by kernel_rfl) (by kernel_rfl) (by kernel_rfl) (fun _ _ _ h => h) (Or.inl ⟨by rfl, ?_⟩) (by assumption) ?_
    rotate_left
    · (intro w hSw; (try dsimp only at hSw); go_simp; try with_reducible rfl)
    simp only [Act.put, List.setIfInBounds_toArray, List.set_cons_zero, List.set_cons_succ]
    refine wpAnyH_take (i := 7) (oi := ⟨some 73, _, _, _, _, _⟩) (v := ?_) rfl (by kernel_rfl) (by kernel_rfl) (by kernel_rfl) (fun _ _ _ h => h) (Or.inl ⟨by rfl, ?_⟩) (by assumption) ?_
    rotate_left
    · (intro w hSw; (try dsimp only at hSw); go_simp; try with_reducible rfl)
    simp only [Act.put, List.setIfInBounds_toArray, List.set_cons_zero, List.set_cons_succ]
    refine wpAnyH_take (i := 8) (oi := ⟨some 74, _, _, _, _, _⟩) (v := ?_) rfl (by kernel_rfl) (by kernel_rfl) (by kernel_rfl) (fun _ _ _ h => h) (Or.inl ⟨by rfl, ?_⟩) (by assumption) ?_
    rotate_left
    · (intro w hSw; (try dsimp only at hSw); go_simp; try with_reducible rfl)
    simp only [Act.put, List.setIfInBounds_toArray, List.set_cons_zero, List.set_cons_succ]
    refine wpAnyH_take (i := 9) (oi := ⟨some 75, _, _, _, _, _⟩) (v := ?_) rfl (by kernel_rfl) (by kernel_rfl) (by kernel_rfl) (fun _ _ _ h => h) (Or.inl ⟨by rfl, ?_⟩) (by assumption) ?_
    rotate_left
    · (intro w hSw; (try dsimp only at hSw); go_simp; try with_reducible rfl)
    simp only [Act.put, List.setIfInBounds_toArray, List.set_cons_zero, List.set_cons_succ]
    refine wpAnyH_ready (rs := [4, 10]) (by kernel_rfl) (by simp) ?_
    refine AllReadyH.cons (o := ⟨some 70, _, _, _, _, _⟩) rfl (fun K hK => ?_) ?_
    · go_simp
      go_at_call 12
      have hcx := HI.out u (by simp) cores _ _ _ hcu HRU.out (HU.out.below bw0.drew)
      refine hcx.mono ?_
      clear hcx
      rintro e w12 ⟨rfl, hb⟩
      have bw12 := below_trans bw0.drew hb
      clear hb
      refine hK.out _ _ (by (try dsimp only); exact ⟨cell_below n5 bw12, cell_below c0 bw12, cell_below c1 bw12, cell_below c2 bw12, cell_below c3 bw12, cell_below c4 bw12, cell_below c5 bw12, cell_below d0 bw12, cell_below d1 bw12, cell_below d2 bw12, cell_below d3 bw12, cell_below d4 bw12, cell_below d5 bw12⟩) ?_
      clear hK K hHeld
      intro hHeld
      try simp only [Act.put, List.setIfInBounds_toArray, List.set_cons_zero, List.set_cons_succ]
      refine wpAnyH_take (i := 5) (oi := ⟨some 71, _, _, _, _, _⟩) (v := ?_) rfl (by kernel_rfl) (by kernel_rfl) (by kernel_rfl) (fun _ _ _ h => h) (Or.inl ⟨by rfl, ?_⟩) (by assumption) ?_
      rotate_left
      · (intro w hSw; (try dsimp only at hSw); go_simp; try with_reducible rfl)
      simp only [Act.put, List.setIfInBounds_toArray, List.set_cons_zero, List.set_cons_succ]
      refine wpAnyH_ready (rs := [10]) (by kernel_rfl) (by simp) ?_
      refine AllReadyH.cons (o := ⟨some 76, _, _, _, _, _⟩) rfl (fun K hK => ?_) AllReadyH.nil
      go_simp
      have bw13 := below_alloc bw12 (.cells #[.int .i64 5] 3)
      have k2_13 : Blk ((w12).alloc (.cells #[.int .i64 5] 3)) 3 (w12.heap.size) [.int .i64 5] := by simpa using Blk.new (w12) 3 [.int .i64 5]
      refine hK.out _ _ (by (try dsimp only); exact ⟨cell_below n5 bw13, cell_below c0 bw13, cell_below c1 bw13, cell_below c2 bw13, cell_below c3 bw13, cell_below c4 bw13, cell_below c5 bw13, cell_below d0 bw13, cell_below d1 bw13, cell_below d2 bw13, cell_below d3 bw13, cell_below d4 bw13, cell_below d5 bw13⟩) ?_
      clear hK K hHeld
      intro hHeld
      try simp only [Act.put, List.setIfInBounds_toArray, List.set_cons_zero, List.set_cons_succ]
      refine wpAnyH_ready (rs := [11]) (by kernel_rfl) (by simp) ?_
      refine AllReadyH.cons (o := ⟨some 77, _, _, _, _, _⟩) rfl (fun K hK => ?_) AllReadyH.nil
      go_simp
      go_at_call 33
      have hcx := wrap_any t (HI.out t (by simp)) cores [5] (by simp) _ _ _ _ hct HRT.out (HT.out.below bw13) k2_13
      rw [wrap_two] at hcx
      refine hcx.mono ?_
      clear hcx
      rintro e w14 ⟨rfl, hb⟩
      have bw14 := below_trans bw13 hb
      have k2_14 := Blk.below k2_13 hb
      clear hb
      refine hK.out _ _ (by (try dsimp only); exact ⟨cell_below n5 bw14, cell_below c0 bw14, cell_below c1 bw14, cell_below c2 bw14, cell_below c3 bw14, cell_below c4 bw14, cell_below c5 bw14, cell_below d0 bw14, cell_below d1 bw14, cell_below d2 bw14, cell_below d3 bw14, cell_below d4 bw14, cell_below d5 bw14⟩) ?_
      clear hK K hHeld
      intro hHeld
      try simp only [Act.put, List.setIfInBounds_toArray, List.set_cons_zero, List.set_cons_succ]
      refine wpAnyH_take (i := 12) (oi := ⟨some 78, _, _, _, _, _⟩) (v := ?_) rfl (by kernel_rfl) (by kernel_rfl) (by kernel_rfl) (fun _ _ _ h => h) (Or.inl ⟨by rfl, ?_⟩) (by assumption) ?_
      rotate_left
      · (intro w hSw; (try dsimp only at hSw); go_simp; try with_reducible rfl)
      simp only [Act.put, List.setIfInBounds_toArray, List.set_cons_zero, List.set_cons_succ]
      refine wpAnyH_take (i := 13) (oi := ⟨some 2, _, _, _, _, _⟩) (v := ?_) rfl (by kernel_rfl) (by kernel_rfl) (by kernel_rfl) (fun _ _ _ h => h) (Or.inl ⟨by rfl, ?_⟩) (by assumption) ?_
      rotate_left
      · (intro w hSw; (try dsimp only at hSw); go_simp; try with_reducible rfl)
      simp only [Act.put, List.setIfInBounds_toArray, List.set_cons_zero, List.set_cons_succ]
      refine wpAnyH_done (by kernel_rfl) ?_ _
      go_wp2_with fail
      go_ret
      exact ⟨by rw [HA.out]; rfl, below_trans HB1.out bw14⟩
    refine AllReadyH.cons (o := ⟨some 76, _, _, _, _, _⟩) rfl (fun K hK => ?_) ?_
    · go_simp
      have bw15 := below_alloc bw0 (.cells #[.int .i64 5] 3)
      have k2_15 : Blk ((w1).alloc (.cells #[.int .i64 5] 3)) 3 (w1.heap.size) [.int .i64 5] := by simpa using Blk.new (w1) 3 [.int .i64 5]
      refine hK.out _ _ (by (try dsimp only); exact ⟨cell_below n5 bw15.drew, cell_below c0 bw15.drew, cell_below c1 bw15.drew, cell_below c2 bw15.drew, cell_below c3 bw15.drew, cell_below c4 bw15.drew, cell_below c5 bw15.drew, cell_below d0 bw15.drew, cell_below d1 bw15.drew, cell_below d2 bw15.drew, cell_below d3 bw15.drew, cell_below d4 bw15.drew, cell_below d5 bw15.drew⟩) ?_
      clear hK K hHeld
      intro hHeld
      try simp only [Act.put, List.setIfInBounds_toArray, List.set_cons_zero, List.set_cons_succ]
      refine wpAnyH_ready (rs := [4]) (by kernel_rfl) (by simp) ?_
      refine AllReadyH.cons (o := ⟨some 70, _, _, _, _, _⟩) rfl (fun K hK => ?_) AllReadyH.nil
      go_simp
      go_at_call 12
      have hcx := HI.out u (by simp) cores _ _ _ hcu HRU.out (HU.out.below bw15.drew)
      refine hcx.mono ?_
      clear hcx
      rintro e w16 ⟨rfl, hb⟩
      have bw16 := below_trans bw15.drew hb
      have k2_16 := Blk.below (blk_drew k2_15) hb
      clear hb
      refine hK.out _ _ (by (try dsimp only); exact ⟨cell_below n5 bw16, cell_below c0 bw16, cell_below c1 bw16, cell_below c2 bw16, cell_below c3 bw16, cell_below c4 bw16, cell_below c5 bw16, cell_below d0 bw16, cell_below d1 bw16, cell_below d2 bw16, cell_below d3 bw16, cell_below d4 bw16, cell_below d5 bw16⟩) ?_
      clear hK K hHeld
      intro hHeld
      try simp only [Act.put, List.setIfInBounds_toArray, List.set_cons_zero, List.set_cons_succ]
      refine wpAnyH_take (i := 5) (oi := ⟨some 71, _, _, _, _, _⟩) (v := ?_) rfl (by kernel_rfl) (by kernel_rfl) (by kernel_rfl) (fun _ _ _ h => h) (Or.inl ⟨by rfl, ?_⟩) (by assumption) ?_
      rotate_left
      · (intro w hSw; (try dsimp only at hSw); go_simp; try with_reducible rfl)
      simp only [Act.put, List.setIfInBounds_toArray, List.set_cons_zero, List.set_cons_succ]
      refine wpAnyH_ready (rs := [11]) (by kernel_rfl) (by simp) ?_
      refine AllReadyH.cons (o := ⟨some 77, _, _, _, _, _⟩) rfl (fun K hK => ?_) AllReadyH.nil
      go_simp
      go_at_call 33
      have hcx := wrap_any t (HI.out t (by simp)) cores [5] (by simp) _ _ _ _ hct HRT.out (HT.out.below bw16) k2_16
      rw [wrap_two] at hcx
      refine hcx.mono ?_
      clear hcx
      rintro e w17 ⟨rfl, hb⟩
      have bw17 := below_trans bw16 hb
      have k2_17 := Blk.below k2_16 hb
      clear hb
      refine hK.out _ _ (by (try dsimp only); exact ⟨cell_below n5 bw17, cell_below c0 bw17, cell_below c1 bw17, cell_below c2 bw17, cell_below c3 bw17, cell_below c4 bw17, cell_below c5 bw17, cell_below d0 bw17, cell_below d1 bw17, cell_below d2 bw17, cell_below d3 bw17, cell_below d4 bw17, cell_below d5 bw17⟩) ?_
      clear hK K hHeld
      intro hHeld
      try simp only [Act.put, List.setIfInBounds_toArray, List.set_cons_zero, List.set_cons_succ]
      refine wpAnyH_take (i := 12) (oi := ⟨some 78, _, _, _, _, _⟩) (v := ?_) rfl (by kernel_rfl) (by kernel_rfl) (by kernel_rfl) (fun _ _ _ h => h) (Or.inl ⟨by rfl, ?_⟩) (by assumption) ?_
      rotate_left
      · (intro w hSw; (try dsimp only at hSw); go_simp; try with_reducible rfl)
      simp only [Act.put, List.setIfInBounds_toArray, List.set_cons_zero, List.set_cons_succ]
      refine wpAnyH_take (i := 13) (oi := ⟨some 2, _, _, _, _, _⟩) (v := ?_) rfl (by kernel_rfl) (by kernel_rfl) (by kernel_rfl) (fun _ _ _ h => h) (Or.inl ⟨by rfl, ?_⟩) (by assumption) ?_
      rotate_left
      · (intro w hSw; (try dsimp only at hSw); go_simp; try with_reducible rfl)
      simp only [Act.put, List.setIfInBounds_toArray, List.set_cons_zero, List.set_cons_succ]
      refine wpAnyH_done (by kernel_rfl) ?_ _
      go_wp2_with fail
      go_ret
      exact ⟨by rw [HA.out]; rfl, below_trans HB1.out bw17⟩
    exact AllReadyH.nil
  exact absurd hk7 (by omega)
end Go.Proofs.Yteepoohcdmjmhaa
