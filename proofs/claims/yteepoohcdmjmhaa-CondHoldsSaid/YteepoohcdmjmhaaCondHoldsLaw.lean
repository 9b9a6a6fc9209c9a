/- Whether any condition is so of any outcome is what the page says: the program and the document answer alike. -/
import Derived.Test.YteepoohcdmjmhaaRows
import Derived.Test.YteepoohcdmjmhaaBase
import Derived.ShutString
import Derived.ChangeOld
import Derived.Lib.SmallJoins
import Derived.Test.YteepoohcdmjmhaaCondAwake
import Derived.Test.YteepoohcdmjmhaaCondHoldsW
import Derived.Test.YteepoohcdmjmhaaCondOut
namespace Go.Proofs.Yteepoohcdmjmhaa.condHolds
open Go.ChangeShapes Go.WideShapes Go.ChangeAt Go.RowKit
open Go.ChangeMaps (open_string shut_string)
set_option linter.unusedVariables false
set_option linter.unusedSimpArgs false

theorem own : ownKnob Try.prog.godebug = none := by kernel_rfl
theorem laidOut : laidOutB Try.prog = true := by kernel_rfl

theorem out_own {w : World} {o : OU} {cs : List Value} (h : OutAt w o cs) : ∃ (p1 : Option Addr) (n1 c1 : Nat) (p2 : Option Addr) (n2 c2 : Nat) (p3 : Option Addr) (n3 c3 : Nat), cs = [.slice p1 n1 c1, .slice p2 n2 c2, .slice p3 n3 c3] := by
  obtain ⟨p1, c1, p2, c2, p3, c3, h1, _⟩ := h
  exact ⟨p1, _, c1, p2, _, c2, p3, _, c3, h1⟩
set_option maxRecDepth 100000 in
set_option maxHeartbeats 3200000 in
theorem walk (t : CT) (cs : List Value) (o : OU) (os : List Value) (w : World) (ht : CT.At w (fun _ => True) t cs) (ho : OutAt w o os) :
    Calls Try.prog 4 #[.agg cs.toArray, .agg os.toArray] w fun e w' => e = .returned (.bool true) ∧ Below w.heap.size w w' := by
  have H0 := Lib.hid ht
  have HO := Lib.hid ho
  obtain ⟨p1, N1, c1, p2, N2, c2, p3, N3, c3, rfl⟩ := out_own ho
  obtain ⟨k, c, r, a, v, args, rfl⟩ : ∃ k c r a v args, t = CT.mk k c r a v args := by obtain ⟨k, c, r, a, v, args⟩ := t; exact ⟨k, c, r, a, v, args, rfl⟩
  obtain ⟨p, cap, rfl, _⟩ := ht.own
  generalize args.length = ln at *
  have hB0 := below_alloc (below_alloc (Below.refl w.heap.size w) (.cells #[.int .i64 k, .int .i64 c, .int .i64 r, .int .u64 (a : Nat), .int .u64 (v : Nat), .slice p ln cap] 25)) (.cells #[.slice p1 N1 c1, .slice p2 N2 c2, .slice p3 N3 c3] 48)
  have HB := Lib.hid hB0
  have HN := Lib.hid ((own_box w #[.int .i64 k, .int .i64 c, .int .i64 r, .int .u64 (a : Nat), .int .u64 (v : Nat), .slice p ln cap]).alloc (.cells #[.slice p1 N1 c1, .slice p2 N2 c2, .slice p3 N3 c3] 48))
  have HM := Lib.hid (show Blk ((w.alloc (.cells #[.int .i64 k, .int .i64 c, .int .i64 r, .int .u64 (a : Nat), .int .u64 (v : Nat), .slice p ln cap] 25)).alloc (.cells #[.slice p1 N1 c1, .slice p2 N2 c2, .slice p3 N3 c3] 48)) 48 (w.heap.size + 1) [.slice p1 N1 c1, .slice p2 N2 c2, .slice p3 N3 c3] from by simpa using Blk.new (w.alloc (.cells #[.int .i64 k, .int .i64 c, .int .i64 r, .int .u64 (a : Nat), .int .u64 (v : Nat), .slice p ln cap] 25)) 48 [.slice p1 N1 c1, .slice p2 N2 c2, .slice p3 N3 c3])
  have HT := Lib.hid (H0.out.below hB0)
  have HO1 := Lib.hid (HO.out.below hB0)
  clear ht H0 ho HO hB0
  generalize CT.mk k c r a v args = t at *
  go_enter Try.func4, Try.ntmps4
  go_wp2_with fail
  refine (cawake_any _).mono ?_
  rintro e w2 ⟨rfl, hb⟩
  have HB2 := Lib.hid (below_trans HB.out hb)
  have HT2 := Lib.hid (HT.out.below hb)
  have HO2 := Lib.hid (HO1.out.below hb)
  obtain ⟨n0, n1, n2, n3, n4, n5⟩ := blk_cells6' (HN.out.below hb)
  have m0 := (HM.out.below hb).cell 0
  have m1 := (HM.out.below hb).cell 1
  have m2 := (HM.out.below hb).cell 2
  simp only [List.getElem?_cons_zero, List.getElem?_cons_succ] at m0 m1 m2
  clear hb HB HN HT HM HO1
  cases hsm : smallT 9 t
  · skip
    go_wp2_with fail
    refine wp_region_held_drew (S := (fun w' => w'.cell? ⟨w.heap.size, 0, none⟩ = some (.int .i64 k) ∧ w'.cell? ⟨w.heap.size, 1, none⟩ = some (.int .i64 c) ∧ w'.cell? ⟨w.heap.size, 2, none⟩ = some (.int .i64 r) ∧ w'.cell? ⟨w.heap.size, 3, none⟩ = some (.int .u64 (a : Nat)) ∧ w'.cell? ⟨w.heap.size, 4, none⟩ = some (.int .u64 (v : Nat)) ∧ w'.cell? ⟨w.heap.size, 5, none⟩ = some (.slice p ln cap) ∧ w'.cell? ⟨w.heap.size + 1, 0, none⟩ = some (.slice p1 N1 c1) ∧ w'.cell? ⟨w.heap.size + 1, 1, none⟩ = some (.slice p2 N2 c2) ∧ w'.cell? ⟨w.heap.size + 1, 2, none⟩ = some (.slice p3 N3 c3))) (by kernel_rfl) (by (try dsimp only); exact ⟨n0, n1, n2, n3, n4, n5, m0, m1, m2⟩) (fun hHeld => ?_)
    refine wpAnyH_take (i := 0) (oi := ⟨some 7, _, _, _, _, _⟩) (v := ?_) rfl (by kernel_rfl) (by kernel_rfl) (by kernel_rfl) (fun _ _ _ h => h) (Or.inl ⟨by rfl, ?_⟩) (by assumption) ?_
    rotate_left
    · (intro w hSw; (try dsimp only at hSw); go_simp; try with_reducible rfl)
    simp only [Act.put, List.setIfInBounds_toArray, List.set_cons_zero, List.set_cons_succ]
    refine wpAnyH_ready (rs := [1]) (by kernel_rfl) (by simp) ?_
    refine AllReadyH.cons (o := ⟨some 8, _, _, _, _, _⟩) rfl (fun K hK => ?_) AllReadyH.nil
    go_simp
    go_at_call 9; refine (csmall_any t 9 9 _ _ _ rfl (by decide) (CT.At.drew HT2.out)).mono ?_; rw [hsm]; rintro e w3 ⟨rfl, hb⟩; have HT3 := Lib.hid (CT.At.below (CT.At.drew HT2.out) hb); have HO3 := Lib.hid (OutAt.below (OutAt.drew HO2.out) hb); have HB3 := Lib.hid (below_trans HB2.out.drew hb); have n0 := cell_below_drew n0 hb; have n1 := cell_below_drew n1 hb; have n2 := cell_below_drew n2 hb; have n3 := cell_below_drew n3 hb; have n4 := cell_below_drew n4 hb; have n5 := cell_below_drew n5 hb; have m0 := cell_below_drew m0 hb; have m1 := cell_below_drew m1 hb; have m2 := cell_below_drew m2 hb; clear hb
    refine hK.out _ _ (by (try dsimp only); exact ⟨n0, n1, n2, n3, n4, n5, m0, m1, m2⟩) ?_
    clear hK K hHeld
    intro hHeld
    try simp only [Act.put, List.setIfInBounds_toArray, List.set_cons_zero, List.set_cons_succ]
    refine wpAnyH_take (i := 2) (oi := ⟨some 9, _, _, _, _, _⟩) (v := ?_) rfl (by kernel_rfl) (by kernel_rfl) (by kernel_rfl) (fun _ _ _ h => h) (Or.inl ⟨by rfl, ?_⟩) (by assumption) ?_
    rotate_left
    · (intro w hSw; (try dsimp only at hSw); go_simp; try with_reducible rfl)
    simp only [Act.put, List.setIfInBounds_toArray, List.set_cons_zero, List.set_cons_succ]
    refine wpAnyH_take (i := 3) (oi := ⟨some 10, _, _, _, _, _⟩) (v := ?_) rfl (by kernel_rfl) (by kernel_rfl) (by kernel_rfl) (fun _ _ _ h => h) (Or.inl ⟨by rfl, ?_⟩) (by assumption) ?_
    rotate_left
    · (intro w hSw; (try dsimp only at hSw); go_simp; try with_reducible rfl)
    simp only [Act.put, List.setIfInBounds_toArray, List.set_cons_zero, List.set_cons_succ]
    refine wpAnyH_take (i := 4) (oi := ⟨some 11, _, _, _, _, _⟩) (v := undef) rfl (by kernel_rfl) (by kernel_rfl) (by kernel_rfl) (fun _ _ _ h => h) (Or.inr ⟨by rfl, rfl⟩) (by assumption) ?_
    simp only [Act.put, List.setIfInBounds_toArray, List.set_cons_zero, List.set_cons_succ]
    refine wpAnyH_take (i := 5) (oi := ⟨some 12, _, _, _, _, _⟩) (v := undef) rfl (by kernel_rfl) (by kernel_rfl) (by kernel_rfl) (fun _ _ _ h => h) (Or.inr ⟨by rfl, rfl⟩) (by assumption) ?_
    simp only [Act.put, List.setIfInBounds_toArray, List.set_cons_zero, List.set_cons_succ]
    refine wpAnyH_take (i := 6) (oi := ⟨some 13, _, _, _, _, _⟩) (v := undef) rfl (by kernel_rfl) (by kernel_rfl) (by kernel_rfl) (fun _ _ _ h => h) (Or.inr ⟨by rfl, rfl⟩) (by assumption) ?_
    simp only [Act.put, List.setIfInBounds_toArray, List.set_cons_zero, List.set_cons_succ]
    refine wpAnyH_take (i := 7) (oi := ⟨some 14, _, _, _, _, _⟩) (v := undef) rfl (by kernel_rfl) (by kernel_rfl) (by kernel_rfl) (fun _ _ _ h => h) (Or.inr ⟨by rfl, rfl⟩) (by assumption) ?_
    simp only [Act.put, List.setIfInBounds_toArray, List.set_cons_zero, List.set_cons_succ]
    refine wpAnyH_take (i := 8) (oi := ⟨some 15, _, _, _, _, _⟩) (v := undef) rfl (by kernel_rfl) (by kernel_rfl) (by kernel_rfl) (fun _ _ _ h => h) (Or.inr ⟨by rfl, rfl⟩) (by assumption) ?_
    simp only [Act.put, List.setIfInBounds_toArray, List.set_cons_zero, List.set_cons_succ]
    refine wpAnyH_take (i := 9) (oi := ⟨some 16, _, _, _, _, _⟩) (v := undef) rfl (by kernel_rfl) (by kernel_rfl) (by kernel_rfl) (fun _ _ _ h => h) (Or.inr ⟨by rfl, rfl⟩) (by assumption) ?_
    simp only [Act.put, List.setIfInBounds_toArray, List.set_cons_zero, List.set_cons_succ]
    refine wpAnyH_take (i := 10) (oi := ⟨some 17, _, _, _, _, _⟩) (v := undef) rfl (by kernel_rfl) (by kernel_rfl) (by kernel_rfl) (fun _ _ _ h => h) (Or.inr ⟨by rfl, rfl⟩) (by assumption) ?_
    simp only [Act.put, List.setIfInBounds_toArray, List.set_cons_zero, List.set_cons_succ]
    refine wpAnyH_take (i := 11) (oi := ⟨some 18, _, _, _, _, _⟩) (v := ?_) rfl (by kernel_rfl) (by kernel_rfl) (by kernel_rfl) (fun _ _ _ h => h) (Or.inl ⟨by rfl, ?_⟩) (by assumption) ?_
    rotate_left
    · (intro w hSw; (try dsimp only at hSw); go_simp; try with_reducible rfl)
    simp only [Act.put, List.setIfInBounds_toArray, List.set_cons_zero, List.set_cons_succ]
    refine wpAnyH_take (i := 12) (oi := ⟨some 4, _, _, _, _, _⟩) (v := ?_) rfl (by kernel_rfl) (by kernel_rfl) (by kernel_rfl) (fun _ _ _ h => h) (Or.inl ⟨by rfl, ?_⟩) (by assumption) ?_
    rotate_left
    · (intro w hSw; (try dsimp only at hSw); go_simp; try with_reducible rfl)
    simp only [Act.put, List.setIfInBounds_toArray, List.set_cons_zero, List.set_cons_succ]
    refine wpAnyH_done (by kernel_rfl) ?_ _
    go_wp2_with fail
    go_ret
    exact ⟨rfl, HB3.out⟩
  · go_wp2_with fail
    refine wp_region_held_drew (S := (fun w' => w'.cell? ⟨w.heap.size, 0, none⟩ = some (.int .i64 k) ∧ w'.cell? ⟨w.heap.size, 1, none⟩ = some (.int .i64 c) ∧ w'.cell? ⟨w.heap.size, 2, none⟩ = some (.int .i64 r) ∧ w'.cell? ⟨w.heap.size, 3, none⟩ = some (.int .u64 (a : Nat)) ∧ w'.cell? ⟨w.heap.size, 4, none⟩ = some (.int .u64 (v : Nat)) ∧ w'.cell? ⟨w.heap.size, 5, none⟩ = some (.slice p ln cap) ∧ w'.cell? ⟨w.heap.size + 1, 0, none⟩ = some (.slice p1 N1 c1) ∧ w'.cell? ⟨w.heap.size + 1, 1, none⟩ = some (.slice p2 N2 c2) ∧ w'.cell? ⟨w.heap.size + 1, 2, none⟩ = some (.slice p3 N3 c3))) (by kernel_rfl) (by (try dsimp only); exact ⟨n0, n1, n2, n3, n4, n5, m0, m1, m2⟩) (fun hHeld => ?_)
    refine wpAnyH_take (i := 0) (oi := ⟨some 7, _, _, _, _, _⟩) (v := ?_) rfl (by kernel_rfl) (by kernel_rfl) (by kernel_rfl) (fun _ _ _ h => h) (Or.inl ⟨by rfl, ?_⟩) (by assumption) ?_
    rotate_left
    · (intro w hSw; (try dsimp only at hSw); go_simp; try with_reducible rfl)
    simp only [Act.put, List.setIfInBounds_toArray, List.set_cons_zero, List.set_cons_succ]
    refine wpAnyH_ready (rs := [1]) (by kernel_rfl) (by simp) ?_
    refine AllReadyH.cons (o := ⟨some 8, _, _, _, _, _⟩) rfl (fun K hK => ?_) AllReadyH.nil
    go_simp
    go_at_call 9; refine (csmall_any t 9 9 _ _ _ rfl (by decide) (CT.At.drew HT2.out)).mono ?_; rw [hsm]; rintro e w3 ⟨rfl, hb⟩; have HT3 := Lib.hid (CT.At.below (CT.At.drew HT2.out) hb); have HO3 := Lib.hid (OutAt.below (OutAt.drew HO2.out) hb); have HB3 := Lib.hid (below_trans HB2.out.drew hb); have n0 := cell_below_drew n0 hb; have n1 := cell_below_drew n1 hb; have n2 := cell_below_drew n2 hb; have n3 := cell_below_drew n3 hb; have n4 := cell_below_drew n4 hb; have n5 := cell_below_drew n5 hb; have m0 := cell_below_drew m0 hb; have m1 := cell_below_drew m1 hb; have m2 := cell_below_drew m2 hb; clear hb
    refine hK.out _ _ (by (try dsimp only); exact ⟨n0, n1, n2, n3, n4, n5, m0, m1, m2⟩) ?_
    clear hK K hHeld
    intro hHeld
    try simp only [Act.put, List.setIfInBounds_toArray, List.set_cons_zero, List.set_cons_succ]
    refine wpAnyH_take (i := 2) (oi := ⟨some 9, _, _, _, _, _⟩) (v := ?_) rfl (by kernel_rfl) (by kernel_rfl) (by kernel_rfl) (fun _ _ _ h => h) (Or.inl ⟨by rfl, ?_⟩) (by assumption) ?_
    rotate_left
    · (intro w hSw; (try dsimp only at hSw); go_simp; try with_reducible rfl)
    simp only [Act.put, List.setIfInBounds_toArray, List.set_cons_zero, List.set_cons_succ]
    refine wpAnyH_take (i := 3) (oi := ⟨some 10, _, _, _, _, _⟩) (v := ?_) rfl (by kernel_rfl) (by kernel_rfl) (by kernel_rfl) (fun _ _ _ h => h) (Or.inl ⟨by rfl, ?_⟩) (by assumption) ?_
    rotate_left
    · (intro w hSw; (try dsimp only at hSw); go_simp; try with_reducible rfl)
    simp only [Act.put, List.setIfInBounds_toArray, List.set_cons_zero, List.set_cons_succ]
    refine wpAnyH_take (i := 4) (oi := ⟨some 11, _, _, _, _, _⟩) (v := ?_) rfl (by kernel_rfl) (by kernel_rfl) (by kernel_rfl) (fun _ _ _ h => h) (Or.inl ⟨by rfl, ?_⟩) (by assumption) ?_
    rotate_left
    · (intro w hSw; (try dsimp only at hSw); go_simp; try with_reducible rfl)
    simp only [Act.put, List.setIfInBounds_toArray, List.set_cons_zero, List.set_cons_succ]
    refine wpAnyH_take (i := 5) (oi := ⟨some 12, _, _, _, _, _⟩) (v := ?_) rfl (by kernel_rfl) (by kernel_rfl) (by kernel_rfl) (fun _ _ _ h => h) (Or.inl ⟨by rfl, ?_⟩) (by assumption) ?_
    rotate_left
    · (intro w hSw; (try dsimp only at hSw); go_simp; try with_reducible rfl)
    simp only [Act.put, List.setIfInBounds_toArray, List.set_cons_zero, List.set_cons_succ]
    refine wpAnyH_take (i := 7) (oi := ⟨some 14, _, _, _, _, _⟩) (v := ?_) rfl (by kernel_rfl) (by kernel_rfl) (by kernel_rfl) (fun _ _ _ h => h) (Or.inl ⟨by rfl, ?_⟩) (by assumption) ?_
    rotate_left
    · (intro w hSw; (try dsimp only at hSw); go_simp; try with_reducible rfl)
    simp only [Act.put, List.setIfInBounds_toArray, List.set_cons_zero, List.set_cons_succ]
    refine wpAnyH_take (i := 8) (oi := ⟨some 15, _, _, _, _, _⟩) (v := ?_) rfl (by kernel_rfl) (by kernel_rfl) (by kernel_rfl) (fun _ _ _ h => h) (Or.inl ⟨by rfl, ?_⟩) (by assumption) ?_
    rotate_left
    · (intro w hSw; (try dsimp only at hSw); go_simp; try with_reducible rfl)
    simp only [Act.put, List.setIfInBounds_toArray, List.set_cons_zero, List.set_cons_succ]
    refine wpAnyH_ready (rs := [6]) (by kernel_rfl) (by simp) ?_
    refine AllReadyH.cons (o := ⟨some 13, _, _, _, _, _⟩) rfl (fun K hK => ?_) AllReadyH.nil
    go_simp
    go_at_call 19; refine (holds_any o t _ _ _ _ HT3.out HO3.out).mono ?_; rintro e w4 ⟨rfl, hb⟩; have HT4 := Lib.hid (CT.At.below HT3.out hb); have HO4 := Lib.hid (OutAt.below HO3.out hb); have HB4 := Lib.hid (below_trans HB3.out hb); have n0 := cell_below n0 hb; have n1 := cell_below n1 hb; have n2 := cell_below n2 hb; have n3 := cell_below n3 hb; have n4 := cell_below n4 hb; have n5 := cell_below n5 hb; have m0 := cell_below m0 hb; have m1 := cell_below m1 hb; have m2 := cell_below m2 hb; clear hb
    refine hK.out _ _ (by (try dsimp only); exact ⟨n0, n1, n2, n3, n4, n5, m0, m1, m2⟩) ?_
    clear hK K hHeld
    intro hHeld
    try simp only [Act.put, List.setIfInBounds_toArray, List.set_cons_zero, List.set_cons_succ]
    refine wpAnyH_ready (rs := [9]) (by kernel_rfl) (by simp) ?_
    refine AllReadyH.cons (o := ⟨some 16, _, _, _, _, _⟩) rfl (fun K hK => ?_) AllReadyH.nil
    go_simp
    go_at_call 20; refine (rholds_any o t _ _ _ _ HT4.out HO4.out).mono ?_; rintro e w5 ⟨rfl, hb⟩; have HT5 := Lib.hid (CT.At.below HT4.out hb); have HO5 := Lib.hid (OutAt.below HO4.out hb); have HB5 := Lib.hid (below_trans HB4.out hb); have n0 := cell_below n0 hb; have n1 := cell_below n1 hb; have n2 := cell_below n2 hb; have n3 := cell_below n3 hb; have n4 := cell_below n4 hb; have n5 := cell_below n5 hb; have m0 := cell_below m0 hb; have m1 := cell_below m1 hb; have m2 := cell_below m2 hb; clear hb
    refine hK.out _ _ (by (try dsimp only); exact ⟨n0, n1, n2, n3, n4, n5, m0, m1, m2⟩) ?_
    clear hK K hHeld
    intro hHeld
    try simp only [Act.put, List.setIfInBounds_toArray, List.set_cons_zero, List.set_cons_succ]
    refine wpAnyH_take (i := 10) (oi := ⟨some 17, _, _, _, _, _⟩) (v := ?_) rfl (by kernel_rfl) (by kernel_rfl) (by kernel_rfl) (fun _ _ _ h => h) (Or.inl ⟨by rfl, ?_⟩) (by assumption) ?_
    rotate_left
    · (intro w hSw; (try dsimp only at hSw); go_simp; try with_reducible rfl)
    simp only [Act.put, List.setIfInBounds_toArray, List.set_cons_zero, List.set_cons_succ]
    refine wpAnyH_take (i := 11) (oi := ⟨some 18, _, _, _, _, _⟩) (v := ?_) rfl (by kernel_rfl) (by kernel_rfl) (by kernel_rfl) (fun _ _ _ h => h) (Or.inl ⟨by rfl, ?_⟩) (by assumption) ?_
    rotate_left
    · (intro w hSw; (try dsimp only at hSw); go_simp; try with_reducible rfl)
    simp only [Act.put, List.setIfInBounds_toArray, List.set_cons_zero, List.set_cons_succ]
    refine wpAnyH_take (i := 12) (oi := ⟨some 4, _, _, _, _, _⟩) (v := ?_) rfl (by kernel_rfl) (by kernel_rfl) (by kernel_rfl) (fun _ _ _ h => h) (Or.inl ⟨by rfl, ?_⟩) (by assumption) ?_
    rotate_left
    · (intro w hSw; (try dsimp only at hSw); go_simp; try with_reducible rfl)
    simp only [Act.put, List.setIfInBounds_toArray, List.set_cons_zero, List.set_cons_succ]
    refine wpAnyH_done (by kernel_rfl) ?_ _
    generalize holdsT o t = X at *
    go_wp2_with fail
    go_ret
    exact ⟨by first | rfl | (cases X <;> rfl), HB5.out⟩

set_option maxRecDepth 100000 in
theorem lifted (os : Os) (started : os.Started) (H : Type) (enc : TypeId × Value → H) :
    ReturnsInHanded {} Try.checked os 4 .any (Rows.condHoldsSpec.pre6 enc Try.prog Try.f4 Rows.condHoldsRow.domain false) (Rows.condHoldsSpec.post enc Try.prog Try.f4 false true false false) := by
  refine returnsInHanded_of_change (C := Try.checked) own started (by kernel_rfl) Try.func4
    (ChangeSpec.witness6 (enc := enc) (C := Try.checked) false ⟨#[], #[.agg #[.int .i64 0, .int .i64 0, .int .i64 0, .int .u64 0, .int .u64 0, .slice none 0 0], .agg #[.slice none 0 0, .slice none 0 0, .slice none 0 0]], []⟩ 8 (by kernel_rfl) (by kernel_rfl) (by kernel_rfl) (by kernel_rfl)) ?_
  intro W base args ds gs before hval0 hW hcnd _
  have hval : ∀ (j : Nat) t v, Try.f4.params[j]? = some t → args[j]? = some v → Value.okWide Try.prog W .any base t v := hval0
  have hW' := hW
  obtain ⟨p, q, hA0, hV, rfl, hfz, hnd⟩ := hW
  have hA : DataW.TrodAll enc Try.prog W 0 (fun _ => true) true Try.f4.params.toList args.toList ds p := hA0
  rw [Try.params4] at hA hval
  obtain ⟨v0, vs0, d0, ds0, p0, q0, hargs, rfl, rfl, h0, r0⟩ := trodAll_cons hA
  obtain ⟨v1, vs1, d1, ds1, p1, q1, rfl, rfl, rfl, h1, r1⟩ := trodAll_cons r0
  obtain ⟨rfl, rfl, rfl⟩ := trodAll_nil r1
  obtain rfl : args = #[v0, v1] := by cases args; simp_all
  obtain ⟨rfl, rfl⟩ := trodVars_none hV
  have k0 := h0
  have lt0 : ∀ x ∈ p0, x.block < W.heap.size := by obtain ⟨m, hm⟩ := k0; exact DataW.trod_lt m _ _ _ hm
  obtain ⟨t0, cs0, rfl, ht0⟩ := open_cond (hval 0 25 v0 rfl rfl) h0
  have k1 := h1
  have lt1 : ∀ x ∈ p1, x.block < W.heap.size := by obtain ⟨m, hm⟩ := k1; exact DataW.trod_lt m _ _ _ hm
  obtain ⟨o1, os1, rfl, ho1⟩ := open_out (hval 1 48 v1 rfl rfl) h1
  clear hA0 hval0
  refine (walk t0 cs0 o1 os1 W ht0 ho1).mono fun e W' ⟨he, bel⟩ => ?_
  subst he
  exact ⟨_, rfl, _, _, _, [], _, [], hW', trodAll_mk1 (shut_bool Try.underlying4 _), (trodAll_cons_mk (Below.trod laidOut (by kernel_rfl) (of_decide_eq_true (by kernel_rfl)) k0 bel lt0) (trodAll_cons_mk (Below.trod laidOut (by kernel_rfl) (of_decide_eq_true (by kernel_rfl)) k1 bel lt1) trodAll_mk0)), rfl, bel.frame _, fun h => by cases h⟩

theorem over : Rows.condHoldsRow.holds Try.pinned (OpenSpec.ofChange Rows.condHoldsSpec) :=
  OpenClaim.holds_of_wide 4 Try.f4 rfl rfl rfl rfl rfl rfl rfl ⟨rfl, rfl, rfl, rfl, rfl⟩ rfl rfl rfl rfl rfl (by kernel_rfl) Try.func4 (by kernel_rfl)
    (of_decide_eq_true (by kernel_rfl)) (by unfold Func.isWrapper; first | (rw [if_pos (by decide +kernel)]; kernel_rfl) | (rw [if_neg (by decide +kernel)]; exact ⟨rfl, rfl⟩))
    (fun os started H enc _ => lifted os started H enc)

theorem proved : Rows.CondHoldsSaid := over
#print axioms proved
end Go.Proofs.Yteepoohcdmjmhaa.condHolds
