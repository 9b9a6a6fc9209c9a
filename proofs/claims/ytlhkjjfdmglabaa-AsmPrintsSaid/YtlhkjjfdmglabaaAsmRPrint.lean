/- granuleref04.Print: the document's text of an instruction: the walk. -/
import Derived.Test.YtlhkjjfdmglabaaAsmRNames
namespace Go.Proofs.Ytlhkjjfdmglabaa
open Go.RowKit
set_option linter.unusedVariables false
set_option linter.unusedSimpArgs false

set_option maxRecDepth 100000 in
set_option maxHeartbeats 6400000 in
theorem rpr_1 (d n m imm kind : Int) (w : World) (hr : rightP 1 d n m imm kind) :
    Calls Try.prog 10 #[instrW 1 d n m imm kind] w fun e w' => e = .returned (.string (ba (printA 1 d n m imm kind))) ∧ Below w.heap.size w w' := by
  have HB := Lib.hid (below_alloc (Below.refl w.heap.size w) (.cells #[.int .i64 1, .int .i64 d, .int .i64 n, .int .i64 m, .int .i64 imm, .int .i64 kind] 23))
  have HN := Lib.hid (own_instr w 1 d n m imm kind)
  have HC := Lib.hid (right3_any 1 d n m imm kind (w.alloc (.cells #[.int .i64 1, .int .i64 d, .int .i64 n, .int .i64 m, .int .i64 imm, .int .i64 kind] 23)))
  rw [right_yes hr] at HC
  have HP := Lib.hid (show printA 1 d n m imm kind = textA 1 d n m imm kind from if_pos hr)
  obtain ⟨⟨hop, hd, hn, hm⟩, hB, hCC, hDD⟩ := hr
  have hi : I64 imm := by unfold rightB at hB; unfold rightC at hCC; constructor <;> omega
  have hneg : ¬ imm < 0 := by unfold rightB at hB; unfold rightC at hCC; omega
  have HRC := Lib.hid hCC
  have HRDD := Lib.hid hDD
  clear hB hCC hDD
  have HII := Lib.hid (fun w1 => rint_any imm w1 hi)
  have HRd := Lib.hid (fun w1 => rreg_any d w1 (by omega))
  have HRn := Lib.hid (fun w1 => rreg_any n w1 (by omega))
  have HRm := Lib.hid (fun w1 => rreg_any m w1 (by omega))
  have bI := intL_len imm hi
  have bD := regL_len d (by constructor <;> omega)
  have bN := regL_len n (by constructor <;> omega)
  have bM := regL_len m (by constructor <;> omega)
  obtain ⟨I, hI⟩ : ∃ I : List UInt8, I = [35] ++ intL imm := ⟨_, rfl⟩
  have hcatI : ∀ wx : World, (Op.stringOp .add { data := #[35] } (ba (intL imm))).run Try.prog wx = .ok (.string (ba I)) wx := cat_bb (P := Try.prog) [35] _ I hI (by simp; omega)
  obtain ⟨TP, hTP⟩ : ∃ I : List UInt8, I = [46, 43] ++ intL imm := ⟨_, rfl⟩
  have hcatP : ∀ wx : World, (Op.stringOp .add { data := #[46, 43] } (ba (intL imm))).run Try.prog wx = .ok (.string (ba TP)) wx := cat_bb (P := Try.prog) [46, 43] _ TP hTP (by simp; omega)
  obtain ⟨TN, hTN⟩ : ∃ I : List UInt8, I = [46] ++ intL imm := ⟨_, rfl⟩
  have hcatN : ∀ wx : World, (Op.stringOp .add { data := #[46] } (ba (intL imm))).run Try.prog wx = .ok (.string (ba TN)) wx := cat_bb (P := Try.prog) [46] _ TN hTN (by simp; omega)
  have bII : I.length ≤ 66 := by rw [hI]; simp; omega
  have bTP : TP.length ≤ 67 := by rw [hTP]; simp; omega
  have bTN : TN.length ≤ 67 := by rw [hTN]; simp; omega
  have HIM := Lib.hid (show immL imm = I from hI.symm)
  have HTP := Lib.hid (fun (h : ¬ imm < 0) => show targetL imm = TP by unfold targetL; rw [if_neg h, hTP])
  have HTN := Lib.hid (fun (h : imm < 0) => show targetL imm = TN by unfold targetL; rw [if_pos h, hTN])
  clear hI hTP hTN
  go_enter Try.func10, Try.ntmps10
  go_wp2_with fail
  refine (HC.out).mono ?_
  rintro e w2 ⟨rfl, hb⟩
  have HB2 := Lib.hid (below_trans HB.out hb)
  have hlt := (HN.out.below hb).lt
  have HN2 := Lib.hid (HN.out.below hb)
  obtain ⟨n0, n1, n2, n3, n4, n5⟩ := blk_instr HN2.out
  clear hb HN HB HC
  go_wp2_with fail
  refine (HII.out _).mono ?_
  rintro e w' ⟨rfl, m1, rfl⟩
  go_wp2_with fail
  refine (HII.out _).mono ?_
  rintro e w' ⟨rfl, m2, rfl⟩
  clear HTP HTN
  go_wp2_with fail
  refine (rname_1 _).mono ?_
  rintro e w7 ⟨rfl, hb⟩
  have HB7 := Lib.hid (below_trans (below_drewN HB2.out _) hb)
  have HN7 := Lib.hid ((HN2.out.dn _).below hb)
  have hlt7 := HN7.out.lt
  clear hb n0 n1 n2 n3 n4 n5 hlt HB2 HN2
  obtain ⟨n0, n1, n2, n3, n4, n5⟩ := blk_instr HN7.out
  have HX := Lib.hid (show printA 1 d n m imm kind = ([78, 79, 80] : List UInt8) by rw [HP.out]; unfold textA; simp [nameL])
  go_wp2_with fail
  go_ret
  exact ⟨by rw [HX.out]; rfl, by repeat (first | exact HB7.out | refine below_drewN ?_ _ | refine Below.drew ?_ | refine below_alloc ?_ _)⟩
set_option maxRecDepth 100000 in
set_option maxHeartbeats 6400000 in
theorem rpr_2 (d n m imm kind : Int) (w : World) (hr : rightP 2 d n m imm kind) :
    Calls Try.prog 10 #[instrW 2 d n m imm kind] w fun e w' => e = .returned (.string (ba (printA 2 d n m imm kind))) ∧ Below w.heap.size w w' := by
  have HB := Lib.hid (below_alloc (Below.refl w.heap.size w) (.cells #[.int .i64 2, .int .i64 d, .int .i64 n, .int .i64 m, .int .i64 imm, .int .i64 kind] 23))
  have HN := Lib.hid (own_instr w 2 d n m imm kind)
  have HC := Lib.hid (right3_any 2 d n m imm kind (w.alloc (.cells #[.int .i64 2, .int .i64 d, .int .i64 n, .int .i64 m, .int .i64 imm, .int .i64 kind] 23)))
  rw [right_yes hr] at HC
  have HP := Lib.hid (show printA 2 d n m imm kind = textA 2 d n m imm kind from if_pos hr)
  obtain ⟨⟨hop, hd, hn, hm⟩, hB, hCC, hDD⟩ := hr
  have hi : I64 imm := by unfold rightB at hB; unfold rightC at hCC; constructor <;> omega
  have hneg : ¬ imm < 0 := by unfold rightB at hB; unfold rightC at hCC; omega
  have HRC := Lib.hid hCC
  have HRDD := Lib.hid hDD
  clear hB hCC hDD
  have HII := Lib.hid (fun w1 => rint_any imm w1 hi)
  have HRd := Lib.hid (fun w1 => rreg_any d w1 (by omega))
  have HRn := Lib.hid (fun w1 => rreg_any n w1 (by omega))
  have HRm := Lib.hid (fun w1 => rreg_any m w1 (by omega))
  have bI := intL_len imm hi
  have bD := regL_len d (by constructor <;> omega)
  have bN := regL_len n (by constructor <;> omega)
  have bM := regL_len m (by constructor <;> omega)
  obtain ⟨I, hI⟩ : ∃ I : List UInt8, I = [35] ++ intL imm := ⟨_, rfl⟩
  have hcatI : ∀ wx : World, (Op.stringOp .add { data := #[35] } (ba (intL imm))).run Try.prog wx = .ok (.string (ba I)) wx := cat_bb (P := Try.prog) [35] _ I hI (by simp; omega)
  obtain ⟨TP, hTP⟩ : ∃ I : List UInt8, I = [46, 43] ++ intL imm := ⟨_, rfl⟩
  have hcatP : ∀ wx : World, (Op.stringOp .add { data := #[46, 43] } (ba (intL imm))).run Try.prog wx = .ok (.string (ba TP)) wx := cat_bb (P := Try.prog) [46, 43] _ TP hTP (by simp; omega)
  obtain ⟨TN, hTN⟩ : ∃ I : List UInt8, I = [46] ++ intL imm := ⟨_, rfl⟩
  have hcatN : ∀ wx : World, (Op.stringOp .add { data := #[46] } (ba (intL imm))).run Try.prog wx = .ok (.string (ba TN)) wx := cat_bb (P := Try.prog) [46] _ TN hTN (by simp; omega)
  have bII : I.length ≤ 66 := by rw [hI]; simp; omega
  have bTP : TP.length ≤ 67 := by rw [hTP]; simp; omega
  have bTN : TN.length ≤ 67 := by rw [hTN]; simp; omega
  have HIM := Lib.hid (show immL imm = I from hI.symm)
  have HTP := Lib.hid (fun (h : ¬ imm < 0) => show targetL imm = TP by unfold targetL; rw [if_neg h, hTP])
  have HTN := Lib.hid (fun (h : imm < 0) => show targetL imm = TN by unfold targetL; rw [if_pos h, hTN])
  clear hI hTP hTN
  go_enter Try.func10, Try.ntmps10
  go_wp2_with fail
  refine (HC.out).mono ?_
  rintro e w2 ⟨rfl, hb⟩
  have HB2 := Lib.hid (below_trans HB.out hb)
  have hlt := (HN.out.below hb).lt
  have HN2 := Lib.hid (HN.out.below hb)
  obtain ⟨n0, n1, n2, n3, n4, n5⟩ := blk_instr HN2.out
  clear hb HN HB HC
  go_wp2_with fail
  refine (HII.out _).mono ?_
  rintro e w' ⟨rfl, m1, rfl⟩
  go_wp2_with fail
  refine (HII.out _).mono ?_
  rintro e w' ⟨rfl, m2, rfl⟩
  clear HTP HTN
  go_wp2_with fail
  refine (rname_2 _).mono ?_
  rintro e w7 ⟨rfl, hb⟩
  have HB7 := Lib.hid (below_trans (below_drewN HB2.out _) hb)
  have HN7 := Lib.hid ((HN2.out.dn _).below hb)
  have hlt7 := HN7.out.lt
  clear hb n0 n1 n2 n3 n4 n5 hlt HB2 HN2
  obtain ⟨n0, n1, n2, n3, n4, n5⟩ := blk_instr HN7.out
  by_cases hz : imm = 0
  · subst hz
    obtain ⟨A1, hA1⟩ : ∃ A : List UInt8, A = [76, 68, 82, 32] ++ (regL d) := ⟨_, rfl⟩
    have hcat1 : ∀ wx : World, (Op.stringOp .add ({ data := #[76, 68, 82] } ++ { data := #[32] } : ByteArray) (ba (regL d))).run Try.prog wx = .ok (.string (ba A1)) wx := by
      have hq : ({ data := #[76, 68, 82] } ++ { data := #[32] } : ByteArray) = ba [76, 68, 82, 32] := by kernel_rfl
      rw [hq]
      exact cat_bb (P := Try.prog) _ _ A1 hA1 (by simp; omega)
    obtain ⟨A2, hA2⟩ : ∃ A : List UInt8, A = A1 ++ [44, 91] := ⟨_, rfl⟩
    have hcat2 : ∀ wx : World, (Op.stringOp .add (ba A1) { data := #[44, 91] }).run Try.prog wx = .ok (.string (ba A2)) wx := cat_bb (P := Try.prog) _ _ A2 hA2 (by rw [hA1]; simp; omega)
    obtain ⟨A3, hA3⟩ : ∃ A : List UInt8, A = A2 ++ (regL n) := ⟨_, rfl⟩
    have hcat3 : ∀ wx : World, (Op.stringOp .add (ba A2) (ba (regL n))).run Try.prog wx = .ok (.string (ba A3)) wx := cat_bb (P := Try.prog) _ _ A3 hA3 (by rw [hA2]; rw [hA1]; simp; omega)
    obtain ⟨A4, hA4⟩ : ∃ A : List UInt8, A = A3 ++ [93] := ⟨_, rfl⟩
    have hcat4 : ∀ wx : World, (Op.stringOp .add (ba A3) { data := #[93] }).run Try.prog wx = .ok (.string (ba A4)) wx := cat_bb (P := Try.prog) _ _ A4 hA4 (by rw [hA3]; rw [hA2]; rw [hA1]; simp; omega)
    have HX := Lib.hid (show printA 2 d n m 0 kind = A4 by rw [HP.out, hA4, hA3, hA2, hA1]; unfold textA; simp [nameL])
    clear hA1 hA2 hA3 hA4
    go_wp2_with fail
    refine wp_region_held_drew (S := (fun w' => w'.cell? ⟨w.heap.size, 0, none⟩ = some (.int .i64 2) ∧ w'.cell? ⟨w.heap.size, 1, none⟩ = some (.int .i64 d) ∧ w'.cell? ⟨w.heap.size, 2, none⟩ = some (.int .i64 n) ∧ w'.cell? ⟨w.heap.size, 3, none⟩ = some (.int .i64 m) ∧ w'.cell? ⟨w.heap.size, 4, none⟩ = some (.int .i64 0) ∧ w'.cell? ⟨w.heap.size, 5, none⟩ = some (.int .i64 kind))) (by kernel_rfl) (by (try dsimp only); exact ⟨n0, n1, n2, n3, n4, n5⟩) (fun hHeld => ?_)
    refine wpAnyH_take (i := 0) (oi := ⟨some 40, _, _, _, _, _⟩) (v := ?_) rfl (by kernel_rfl) (by kernel_rfl) (by kernel_rfl) (fun _ _ _ h => h) (Or.inl ⟨by rfl, ?_⟩) (by assumption) ?_
    rotate_left
    · (intro w hSw; (try dsimp only at hSw); go_simp; try with_reducible rfl)
    simp only [Act.put, List.setIfInBounds_toArray, List.set_cons_zero, List.set_cons_succ]
    refine wpAnyH_take (i := 1) (oi := ⟨some 41, _, _, _, _, _⟩) (v := ?_) rfl (by kernel_rfl) (by kernel_rfl) (by kernel_rfl) (fun _ _ _ h => h) (Or.inl ⟨by rfl, ?_⟩) (by assumption) ?_
    rotate_left
    · (intro w hSw; (try dsimp only at hSw); go_simp; try with_reducible rfl)
    simp only [Act.put, List.setIfInBounds_toArray, List.set_cons_zero, List.set_cons_succ]
    refine wpAnyH_take (i := 2) (oi := ⟨some 42, _, _, _, _, _⟩) (v := ?_) rfl (by kernel_rfl) (by kernel_rfl) (by kernel_rfl) (fun _ _ _ h => h) (Or.inl ⟨by rfl, ?_⟩) (by assumption) ?_
    rotate_left
    · (intro w hSw; (try dsimp only at hSw); go_simp; try with_reducible rfl)
    simp only [Act.put, List.setIfInBounds_toArray, List.set_cons_zero, List.set_cons_succ]
    refine wpAnyH_take (i := 3) (oi := ⟨some 43, _, _, _, _, _⟩) (v := ?_) rfl (by kernel_rfl) (by kernel_rfl) (by kernel_rfl) (fun _ _ _ h => h) (Or.inl ⟨by rfl, ?_⟩) (by assumption) ?_
    rotate_left
    · (intro w hSw; (try dsimp only at hSw); go_simp; try with_reducible rfl)
    simp only [Act.put, List.setIfInBounds_toArray, List.set_cons_zero, List.set_cons_succ]
    refine wpAnyH_take (i := 7) (oi := ⟨some 47, _, _, _, _, _⟩) (v := ?_) rfl (by kernel_rfl) (by kernel_rfl) (by kernel_rfl) (fun _ _ _ h => h) (Or.inl ⟨by rfl, ?_⟩) (by assumption) ?_
    rotate_left
    · (intro w hSw; (try dsimp only at hSw); go_simp; try with_reducible rfl)
    simp only [Act.put, List.setIfInBounds_toArray, List.set_cons_zero, List.set_cons_succ]
    refine wpAnyH_take (i := 8) (oi := ⟨some 48, _, _, _, _, _⟩) (v := ?_) rfl (by kernel_rfl) (by kernel_rfl) (by kernel_rfl) (fun _ _ _ h => h) (Or.inl ⟨by rfl, ?_⟩) (by assumption) ?_
    rotate_left
    · (intro w hSw; (try dsimp only at hSw); go_simp; try with_reducible rfl)
    simp only [Act.put, List.setIfInBounds_toArray, List.set_cons_zero, List.set_cons_succ]
    refine wpAnyH_ready (rs := [4]) (by kernel_rfl) (by simp) ?_
    refine AllReadyH.cons (o := ⟨some 44, _, _, _, _, _⟩) rfl (fun K hK => ?_) AllReadyH.nil
    go_simp
    go_at_call 16; refine (HRd.out _).mono ?_; rintro e w' ⟨rfl, md, rfl⟩
    refine hK.out _ _ (by (try dsimp only); exact ⟨n0, n1, n2, n3, n4, n5⟩) ?_
    clear hK K hHeld
    intro hHeld
    try simp only [Act.put, List.setIfInBounds_toArray, List.set_cons_zero, List.set_cons_succ]
    refine wpAnyH_take (i := 5) (oi := ⟨some 45, _, _, _, _, _⟩) (v := ?_) rfl (by kernel_rfl) (by kernel_rfl) (by kernel_rfl) (fun _ _ _ h => h) (Or.inl ⟨by rfl, ?_⟩) (by assumption) ?_
    rotate_left
    · (intro w hSw; (try dsimp only at hSw); go_simp; try with_reducible rfl)
    simp only [Act.put, List.setIfInBounds_toArray, List.set_cons_zero, List.set_cons_succ]
    refine wpAnyH_take (i := 6) (oi := ⟨some 46, _, _, _, _, _⟩) (v := ?_) rfl (by kernel_rfl) (by kernel_rfl) (by kernel_rfl) (fun _ _ _ h => h) (Or.inl ⟨by rfl, ?_⟩) (by assumption) ?_
    rotate_left
    · (intro w hSw; (try dsimp only at hSw); go_simp; try with_reducible rfl)
    simp only [Act.put, List.setIfInBounds_toArray, List.set_cons_zero, List.set_cons_succ]
    refine wpAnyH_ready (rs := [9]) (by kernel_rfl) (by simp) ?_
    refine AllReadyH.cons (o := ⟨some 49, _, _, _, _, _⟩) rfl (fun K hK => ?_) AllReadyH.nil
    go_simp
    go_at_call 16; refine (HRn.out _).mono ?_; rintro e w' ⟨rfl, mn, rfl⟩
    refine hK.out _ _ (by (try dsimp only); exact ⟨n0, n1, n2, n3, n4, n5⟩) ?_
    clear hK K hHeld
    intro hHeld
    try simp only [Act.put, List.setIfInBounds_toArray, List.set_cons_zero, List.set_cons_succ]
    refine wpAnyH_take (i := 10) (oi := ⟨some 50, _, _, _, _, _⟩) (v := ?_) rfl (by kernel_rfl) (by kernel_rfl) (by kernel_rfl) (fun _ _ _ h => h) (Or.inl ⟨by rfl, ?_⟩) (by assumption) ?_
    rotate_left
    · (intro w hSw; (try dsimp only at hSw); go_simp; try with_reducible rfl)
    simp only [Act.put, List.setIfInBounds_toArray, List.set_cons_zero, List.set_cons_succ]
    refine wpAnyH_take (i := 11) (oi := ⟨some 5, _, _, _, _, _⟩) (v := ?_) rfl (by kernel_rfl) (by kernel_rfl) (by kernel_rfl) (fun _ _ _ h => h) (Or.inl ⟨by rfl, ?_⟩) (by assumption) ?_
    rotate_left
    · (intro w hSw; (try dsimp only at hSw); go_simp; try with_reducible rfl)
    simp only [Act.put, List.setIfInBounds_toArray, List.set_cons_zero, List.set_cons_succ]
    refine wpAnyH_done (by kernel_rfl) ?_ _
    go_wp2_with fail
    go_ret
    exact ⟨by rw [HX.out]; rfl, by repeat (first | exact HB7.out | refine below_drewN ?_ _ | refine Below.drew ?_ | refine below_alloc ?_ _)⟩
  · have hzb : (imm != 0) = true := bne_iff_ne.2 hz
    obtain ⟨A1, hA1⟩ : ∃ A : List UInt8, A = [76, 68, 82, 32] ++ (regL d) := ⟨_, rfl⟩
    have hcat1 : ∀ wx : World, (Op.stringOp .add ({ data := #[76, 68, 82] } ++ { data := #[32] } : ByteArray) (ba (regL d))).run Try.prog wx = .ok (.string (ba A1)) wx := by
      have hq : ({ data := #[76, 68, 82] } ++ { data := #[32] } : ByteArray) = ba [76, 68, 82, 32] := by kernel_rfl
      rw [hq]
      exact cat_bb (P := Try.prog) _ _ A1 hA1 (by simp; omega)
    obtain ⟨A2, hA2⟩ : ∃ A : List UInt8, A = A1 ++ [44, 91] := ⟨_, rfl⟩
    have hcat2 : ∀ wx : World, (Op.stringOp .add (ba A1) { data := #[44, 91] }).run Try.prog wx = .ok (.string (ba A2)) wx := cat_bb (P := Try.prog) _ _ A2 hA2 (by rw [hA1]; simp; omega)
    obtain ⟨A3, hA3⟩ : ∃ A : List UInt8, A = A2 ++ (regL n) := ⟨_, rfl⟩
    have hcat3 : ∀ wx : World, (Op.stringOp .add (ba A2) (ba (regL n))).run Try.prog wx = .ok (.string (ba A3)) wx := cat_bb (P := Try.prog) _ _ A3 hA3 (by rw [hA2]; rw [hA1]; simp; omega)
    obtain ⟨A4, hA4⟩ : ∃ A : List UInt8, A = A3 ++ [44] := ⟨_, rfl⟩
    have hcat4 : ∀ wx : World, (Op.stringOp .add (ba A3) { data := #[44] }).run Try.prog wx = .ok (.string (ba A4)) wx := cat_bb (P := Try.prog) _ _ A4 hA4 (by rw [hA3]; rw [hA2]; rw [hA1]; simp; omega)
    obtain ⟨A5, hA5⟩ : ∃ A : List UInt8, A = A4 ++ I := ⟨_, rfl⟩
    have hcat5 : ∀ wx : World, (Op.stringOp .add (ba A4) (ba I)).run Try.prog wx = .ok (.string (ba A5)) wx := cat_bb (P := Try.prog) _ _ A5 hA5 (by rw [hA4]; rw [hA3]; rw [hA2]; rw [hA1]; simp; omega)
    obtain ⟨A6, hA6⟩ : ∃ A : List UInt8, A = A5 ++ [93] := ⟨_, rfl⟩
    have hcat6 : ∀ wx : World, (Op.stringOp .add (ba A5) { data := #[93] }).run Try.prog wx = .ok (.string (ba A6)) wx := cat_bb (P := Try.prog) _ _ A6 hA6 (by rw [hA5]; rw [hA4]; rw [hA3]; rw [hA2]; rw [hA1]; simp; omega)
    have HX := Lib.hid (show printA 2 d n m imm kind = A6 by rw [HP.out, hA6, hA5, hA4, hA3, hA2, hA1]; unfold textA; simp [nameL, hz, HIM.out])
    clear hA1 hA2 hA3 hA4 hA5 hA6
    go_wp2_with fail
    refine wp_region_held_drew (S := (fun w' => w'.cell? ⟨w.heap.size, 0, none⟩ = some (.int .i64 2) ∧ w'.cell? ⟨w.heap.size, 1, none⟩ = some (.int .i64 d) ∧ w'.cell? ⟨w.heap.size, 2, none⟩ = some (.int .i64 n) ∧ w'.cell? ⟨w.heap.size, 3, none⟩ = some (.int .i64 m) ∧ w'.cell? ⟨w.heap.size, 4, none⟩ = some (.int .i64 imm) ∧ w'.cell? ⟨w.heap.size, 5, none⟩ = some (.int .i64 kind))) (by kernel_rfl) (by (try dsimp only); exact ⟨n0, n1, n2, n3, n4, n5⟩) (fun hHeld => ?_)
    refine wpAnyH_take (i := 0) (oi := ⟨some 40, _, _, _, _, _⟩) (v := ?_) rfl (by kernel_rfl) (by kernel_rfl) (by kernel_rfl) (fun _ _ _ h => h) (Or.inl ⟨by rfl, ?_⟩) (by assumption) ?_
    rotate_left
    · (intro w hSw; (try dsimp only at hSw); go_simp; try with_reducible rfl)
    simp only [Act.put, List.setIfInBounds_toArray, List.set_cons_zero, List.set_cons_succ]
    refine wpAnyH_take (i := 1) (oi := ⟨some 41, _, _, _, _, _⟩) (v := ?_) rfl (by kernel_rfl) (by kernel_rfl) (by kernel_rfl) (fun _ _ _ h => h) (Or.inl ⟨by rfl, ?_⟩) (by assumption) ?_
    rotate_left
    · (intro w hSw; (try dsimp only at hSw); go_simp; try with_reducible rfl)
    simp only [Act.put, List.setIfInBounds_toArray, List.set_cons_zero, List.set_cons_succ]
    refine wpAnyH_take (i := 2) (oi := ⟨some 42, _, _, _, _, _⟩) (v := ?_) rfl (by kernel_rfl) (by kernel_rfl) (by kernel_rfl) (fun _ _ _ h => h) (Or.inl ⟨by rfl, ?_⟩) (by assumption) ?_
    rotate_left
    · (intro w hSw; (try dsimp only at hSw); go_simp; try with_reducible rfl)
    simp only [Act.put, List.setIfInBounds_toArray, List.set_cons_zero, List.set_cons_succ]
    refine wpAnyH_take (i := 3) (oi := ⟨some 43, _, _, _, _, _⟩) (v := ?_) rfl (by kernel_rfl) (by kernel_rfl) (by kernel_rfl) (fun _ _ _ h => h) (Or.inl ⟨by rfl, ?_⟩) (by assumption) ?_
    rotate_left
    · (intro w hSw; (try dsimp only at hSw); go_simp; try with_reducible rfl)
    simp only [Act.put, List.setIfInBounds_toArray, List.set_cons_zero, List.set_cons_succ]
    refine wpAnyH_take (i := 7) (oi := ⟨some 47, _, _, _, _, _⟩) (v := ?_) rfl (by kernel_rfl) (by kernel_rfl) (by kernel_rfl) (fun _ _ _ h => h) (Or.inl ⟨by rfl, ?_⟩) (by assumption) ?_
    rotate_left
    · (intro w hSw; (try dsimp only at hSw); go_simp; try with_reducible rfl)
    simp only [Act.put, List.setIfInBounds_toArray, List.set_cons_zero, List.set_cons_succ]
    refine wpAnyH_take (i := 8) (oi := ⟨some 48, _, _, _, _, _⟩) (v := ?_) rfl (by kernel_rfl) (by kernel_rfl) (by kernel_rfl) (fun _ _ _ h => h) (Or.inl ⟨by rfl, ?_⟩) (by assumption) ?_
    rotate_left
    · (intro w hSw; (try dsimp only at hSw); go_simp; try with_reducible rfl)
    simp only [Act.put, List.setIfInBounds_toArray, List.set_cons_zero, List.set_cons_succ]
    refine wpAnyH_ready (rs := [4]) (by kernel_rfl) (by simp) ?_
    refine AllReadyH.cons (o := ⟨some 44, _, _, _, _, _⟩) rfl (fun K hK => ?_) AllReadyH.nil
    go_simp
    go_at_call 16; refine (HRd.out _).mono ?_; rintro e w' ⟨rfl, md, rfl⟩
    refine hK.out _ _ (by (try dsimp only); exact ⟨n0, n1, n2, n3, n4, n5⟩) ?_
    clear hK K hHeld
    intro hHeld
    try simp only [Act.put, List.setIfInBounds_toArray, List.set_cons_zero, List.set_cons_succ]
    refine wpAnyH_take (i := 5) (oi := ⟨some 45, _, _, _, _, _⟩) (v := ?_) rfl (by kernel_rfl) (by kernel_rfl) (by kernel_rfl) (fun _ _ _ h => h) (Or.inl ⟨by rfl, ?_⟩) (by assumption) ?_
    rotate_left
    · (intro w hSw; (try dsimp only at hSw); go_simp; try with_reducible rfl)
    simp only [Act.put, List.setIfInBounds_toArray, List.set_cons_zero, List.set_cons_succ]
    refine wpAnyH_take (i := 6) (oi := ⟨some 46, _, _, _, _, _⟩) (v := ?_) rfl (by kernel_rfl) (by kernel_rfl) (by kernel_rfl) (fun _ _ _ h => h) (Or.inl ⟨by rfl, ?_⟩) (by assumption) ?_
    rotate_left
    · (intro w hSw; (try dsimp only at hSw); go_simp; try with_reducible rfl)
    simp only [Act.put, List.setIfInBounds_toArray, List.set_cons_zero, List.set_cons_succ]
    refine wpAnyH_ready (rs := [9]) (by kernel_rfl) (by simp) ?_
    refine AllReadyH.cons (o := ⟨some 49, _, _, _, _, _⟩) rfl (fun K hK => ?_) AllReadyH.nil
    go_simp
    go_at_call 16; refine (HRn.out _).mono ?_; rintro e w' ⟨rfl, mn, rfl⟩
    refine hK.out _ _ (by (try dsimp only); exact ⟨n0, n1, n2, n3, n4, n5⟩) ?_
    clear hK K hHeld
    intro hHeld
    try simp only [Act.put, List.setIfInBounds_toArray, List.set_cons_zero, List.set_cons_succ]
    refine wpAnyH_take (i := 10) (oi := ⟨some 50, _, _, _, _, _⟩) (v := ?_) rfl (by kernel_rfl) (by kernel_rfl) (by kernel_rfl) (fun _ _ _ h => h) (Or.inl ⟨by rfl, ?_⟩) (by assumption) ?_
    rotate_left
    · (intro w hSw; (try dsimp only at hSw); go_simp; try with_reducible rfl)
    simp only [Act.put, List.setIfInBounds_toArray, List.set_cons_zero, List.set_cons_succ]
    refine wpAnyH_take (i := 11) (oi := ⟨some 5, _, _, _, _, _⟩) (v := ?_) rfl (by kernel_rfl) (by kernel_rfl) (by kernel_rfl) (fun _ _ _ h => h) (Or.inl ⟨by rfl, ?_⟩) (by assumption) ?_
    rotate_left
    · (intro w hSw; (try dsimp only at hSw); go_simp; try with_reducible rfl)
    simp only [Act.put, List.setIfInBounds_toArray, List.set_cons_zero, List.set_cons_succ]
    refine wpAnyH_done (by kernel_rfl) ?_ _
    go_wp2_with fail
    go_ret
    exact ⟨by rw [HX.out]; rfl, by repeat (first | exact HB7.out | refine below_drewN ?_ _ | refine Below.drew ?_ | refine below_alloc ?_ _)⟩
set_option maxRecDepth 100000 in
set_option maxHeartbeats 6400000 in
theorem rpr_3 (d n m imm kind : Int) (w : World) (hr : rightP 3 d n m imm kind) :
    Calls Try.prog 10 #[instrW 3 d n m imm kind] w fun e w' => e = .returned (.string (ba (printA 3 d n m imm kind))) ∧ Below w.heap.size w w' := by
  have HB := Lib.hid (below_alloc (Below.refl w.heap.size w) (.cells #[.int .i64 3, .int .i64 d, .int .i64 n, .int .i64 m, .int .i64 imm, .int .i64 kind] 23))
  have HN := Lib.hid (own_instr w 3 d n m imm kind)
  have HC := Lib.hid (right3_any 3 d n m imm kind (w.alloc (.cells #[.int .i64 3, .int .i64 d, .int .i64 n, .int .i64 m, .int .i64 imm, .int .i64 kind] 23)))
  rw [right_yes hr] at HC
  have HP := Lib.hid (show printA 3 d n m imm kind = textA 3 d n m imm kind from if_pos hr)
  obtain ⟨⟨hop, hd, hn, hm⟩, hB, hCC, hDD⟩ := hr
  have hi : I64 imm := by unfold rightB at hB; unfold rightC at hCC; constructor <;> omega
  have hneg : ¬ imm < 0 := by unfold rightB at hB; unfold rightC at hCC; omega
  have HRC := Lib.hid hCC
  have HRDD := Lib.hid hDD
  clear hB hCC hDD
  have HII := Lib.hid (fun w1 => rint_any imm w1 hi)
  have HRd := Lib.hid (fun w1 => rreg_any d w1 (by omega))
  have HRn := Lib.hid (fun w1 => rreg_any n w1 (by omega))
  have HRm := Lib.hid (fun w1 => rreg_any m w1 (by omega))
  have bI := intL_len imm hi
  have bD := regL_len d (by constructor <;> omega)
  have bN := regL_len n (by constructor <;> omega)
  have bM := regL_len m (by constructor <;> omega)
  obtain ⟨I, hI⟩ : ∃ I : List UInt8, I = [35] ++ intL imm := ⟨_, rfl⟩
  have hcatI : ∀ wx : World, (Op.stringOp .add { data := #[35] } (ba (intL imm))).run Try.prog wx = .ok (.string (ba I)) wx := cat_bb (P := Try.prog) [35] _ I hI (by simp; omega)
  obtain ⟨TP, hTP⟩ : ∃ I : List UInt8, I = [46, 43] ++ intL imm := ⟨_, rfl⟩
  have hcatP : ∀ wx : World, (Op.stringOp .add { data := #[46, 43] } (ba (intL imm))).run Try.prog wx = .ok (.string (ba TP)) wx := cat_bb (P := Try.prog) [46, 43] _ TP hTP (by simp; omega)
  obtain ⟨TN, hTN⟩ : ∃ I : List UInt8, I = [46] ++ intL imm := ⟨_, rfl⟩
  have hcatN : ∀ wx : World, (Op.stringOp .add { data := #[46] } (ba (intL imm))).run Try.prog wx = .ok (.string (ba TN)) wx := cat_bb (P := Try.prog) [46] _ TN hTN (by simp; omega)
  have bII : I.length ≤ 66 := by rw [hI]; simp; omega
  have bTP : TP.length ≤ 67 := by rw [hTP]; simp; omega
  have bTN : TN.length ≤ 67 := by rw [hTN]; simp; omega
  have HIM := Lib.hid (show immL imm = I from hI.symm)
  have HTP := Lib.hid (fun (h : ¬ imm < 0) => show targetL imm = TP by unfold targetL; rw [if_neg h, hTP])
  have HTN := Lib.hid (fun (h : imm < 0) => show targetL imm = TN by unfold targetL; rw [if_pos h, hTN])
  clear hI hTP hTN
  go_enter Try.func10, Try.ntmps10
  go_wp2_with fail
  refine (HC.out).mono ?_
  rintro e w2 ⟨rfl, hb⟩
  have HB2 := Lib.hid (below_trans HB.out hb)
  have hlt := (HN.out.below hb).lt
  have HN2 := Lib.hid (HN.out.below hb)
  obtain ⟨n0, n1, n2, n3, n4, n5⟩ := blk_instr HN2.out
  clear hb HN HB HC
  go_wp2_with fail
  refine (HII.out _).mono ?_
  rintro e w' ⟨rfl, m1, rfl⟩
  go_wp2_with fail
  refine (HII.out _).mono ?_
  rintro e w' ⟨rfl, m2, rfl⟩
  clear HTP HTN
  go_wp2_with fail
  refine (rname_3 _).mono ?_
  rintro e w7 ⟨rfl, hb⟩
  have HB7 := Lib.hid (below_trans (below_drewN HB2.out _) hb)
  have HN7 := Lib.hid ((HN2.out.dn _).below hb)
  have hlt7 := HN7.out.lt
  clear hb n0 n1 n2 n3 n4 n5 hlt HB2 HN2
  obtain ⟨n0, n1, n2, n3, n4, n5⟩ := blk_instr HN7.out
  by_cases hz : imm = 0
  · subst hz
    obtain ⟨A1, hA1⟩ : ∃ A : List UInt8, A = [83, 84, 82, 32] ++ (regL d) := ⟨_, rfl⟩
    have hcat1 : ∀ wx : World, (Op.stringOp .add ({ data := #[83, 84, 82] } ++ { data := #[32] } : ByteArray) (ba (regL d))).run Try.prog wx = .ok (.string (ba A1)) wx := by
      have hq : ({ data := #[83, 84, 82] } ++ { data := #[32] } : ByteArray) = ba [83, 84, 82, 32] := by kernel_rfl
      rw [hq]
      exact cat_bb (P := Try.prog) _ _ A1 hA1 (by simp; omega)
    obtain ⟨A2, hA2⟩ : ∃ A : List UInt8, A = A1 ++ [44, 91] := ⟨_, rfl⟩
    have hcat2 : ∀ wx : World, (Op.stringOp .add (ba A1) { data := #[44, 91] }).run Try.prog wx = .ok (.string (ba A2)) wx := cat_bb (P := Try.prog) _ _ A2 hA2 (by rw [hA1]; simp; omega)
    obtain ⟨A3, hA3⟩ : ∃ A : List UInt8, A = A2 ++ (regL n) := ⟨_, rfl⟩
    have hcat3 : ∀ wx : World, (Op.stringOp .add (ba A2) (ba (regL n))).run Try.prog wx = .ok (.string (ba A3)) wx := cat_bb (P := Try.prog) _ _ A3 hA3 (by rw [hA2]; rw [hA1]; simp; omega)
    obtain ⟨A4, hA4⟩ : ∃ A : List UInt8, A = A3 ++ [93] := ⟨_, rfl⟩
    have hcat4 : ∀ wx : World, (Op.stringOp .add (ba A3) { data := #[93] }).run Try.prog wx = .ok (.string (ba A4)) wx := cat_bb (P := Try.prog) _ _ A4 hA4 (by rw [hA3]; rw [hA2]; rw [hA1]; simp; omega)
    have HX := Lib.hid (show printA 3 d n m 0 kind = A4 by rw [HP.out, hA4, hA3, hA2, hA1]; unfold textA; simp [nameL])
    clear hA1 hA2 hA3 hA4
    go_wp2_with fail
    refine wp_region_held_drew (S := (fun w' => w'.cell? ⟨w.heap.size, 0, none⟩ = some (.int .i64 3) ∧ w'.cell? ⟨w.heap.size, 1, none⟩ = some (.int .i64 d) ∧ w'.cell? ⟨w.heap.size, 2, none⟩ = some (.int .i64 n) ∧ w'.cell? ⟨w.heap.size, 3, none⟩ = some (.int .i64 m) ∧ w'.cell? ⟨w.heap.size, 4, none⟩ = some (.int .i64 0) ∧ w'.cell? ⟨w.heap.size, 5, none⟩ = some (.int .i64 kind))) (by kernel_rfl) (by (try dsimp only); exact ⟨n0, n1, n2, n3, n4, n5⟩) (fun hHeld => ?_)
    refine wpAnyH_take (i := 0) (oi := ⟨some 40, _, _, _, _, _⟩) (v := ?_) rfl (by kernel_rfl) (by kernel_rfl) (by kernel_rfl) (fun _ _ _ h => h) (Or.inl ⟨by rfl, ?_⟩) (by assumption) ?_
    rotate_left
    · (intro w hSw; (try dsimp only at hSw); go_simp; try with_reducible rfl)
    simp only [Act.put, List.setIfInBounds_toArray, List.set_cons_zero, List.set_cons_succ]
    refine wpAnyH_take (i := 1) (oi := ⟨some 41, _, _, _, _, _⟩) (v := ?_) rfl (by kernel_rfl) (by kernel_rfl) (by kernel_rfl) (fun _ _ _ h => h) (Or.inl ⟨by rfl, ?_⟩) (by assumption) ?_
    rotate_left
    · (intro w hSw; (try dsimp only at hSw); go_simp; try with_reducible rfl)
    simp only [Act.put, List.setIfInBounds_toArray, List.set_cons_zero, List.set_cons_succ]
    refine wpAnyH_take (i := 2) (oi := ⟨some 42, _, _, _, _, _⟩) (v := ?_) rfl (by kernel_rfl) (by kernel_rfl) (by kernel_rfl) (fun _ _ _ h => h) (Or.inl ⟨by rfl, ?_⟩) (by assumption) ?_
    rotate_left
    · (intro w hSw; (try dsimp only at hSw); go_simp; try with_reducible rfl)
    simp only [Act.put, List.setIfInBounds_toArray, List.set_cons_zero, List.set_cons_succ]
    refine wpAnyH_take (i := 3) (oi := ⟨some 43, _, _, _, _, _⟩) (v := ?_) rfl (by kernel_rfl) (by kernel_rfl) (by kernel_rfl) (fun _ _ _ h => h) (Or.inl ⟨by rfl, ?_⟩) (by assumption) ?_
    rotate_left
    · (intro w hSw; (try dsimp only at hSw); go_simp; try with_reducible rfl)
    simp only [Act.put, List.setIfInBounds_toArray, List.set_cons_zero, List.set_cons_succ]
    refine wpAnyH_take (i := 7) (oi := ⟨some 47, _, _, _, _, _⟩) (v := ?_) rfl (by kernel_rfl) (by kernel_rfl) (by kernel_rfl) (fun _ _ _ h => h) (Or.inl ⟨by rfl, ?_⟩) (by assumption) ?_
    rotate_left
    · (intro w hSw; (try dsimp only at hSw); go_simp; try with_reducible rfl)
    simp only [Act.put, List.setIfInBounds_toArray, List.set_cons_zero, List.set_cons_succ]
    refine wpAnyH_take (i := 8) (oi := ⟨some 48, _, _, _, _, _⟩) (v := ?_) rfl (by kernel_rfl) (by kernel_rfl) (by kernel_rfl) (fun _ _ _ h => h) (Or.inl ⟨by rfl, ?_⟩) (by assumption) ?_
    rotate_left
    · (intro w hSw; (try dsimp only at hSw); go_simp; try with_reducible rfl)
    simp only [Act.put, List.setIfInBounds_toArray, List.set_cons_zero, List.set_cons_succ]
    refine wpAnyH_ready (rs := [4]) (by kernel_rfl) (by simp) ?_
    refine AllReadyH.cons (o := ⟨some 44, _, _, _, _, _⟩) rfl (fun K hK => ?_) AllReadyH.nil
    go_simp
    go_at_call 16; refine (HRd.out _).mono ?_; rintro e w' ⟨rfl, md, rfl⟩
    refine hK.out _ _ (by (try dsimp only); exact ⟨n0, n1, n2, n3, n4, n5⟩) ?_
    clear hK K hHeld
    intro hHeld
    try simp only [Act.put, List.setIfInBounds_toArray, List.set_cons_zero, List.set_cons_succ]
    refine wpAnyH_take (i := 5) (oi := ⟨some 45, _, _, _, _, _⟩) (v := ?_) rfl (by kernel_rfl) (by kernel_rfl) (by kernel_rfl) (fun _ _ _ h => h) (Or.inl ⟨by rfl, ?_⟩) (by assumption) ?_
    rotate_left
    · (intro w hSw; (try dsimp only at hSw); go_simp; try with_reducible rfl)
    simp only [Act.put, List.setIfInBounds_toArray, List.set_cons_zero, List.set_cons_succ]
    refine wpAnyH_take (i := 6) (oi := ⟨some 46, _, _, _, _, _⟩) (v := ?_) rfl (by kernel_rfl) (by kernel_rfl) (by kernel_rfl) (fun _ _ _ h => h) (Or.inl ⟨by rfl, ?_⟩) (by assumption) ?_
    rotate_left
    · (intro w hSw; (try dsimp only at hSw); go_simp; try with_reducible rfl)
    simp only [Act.put, List.setIfInBounds_toArray, List.set_cons_zero, List.set_cons_succ]
    refine wpAnyH_ready (rs := [9]) (by kernel_rfl) (by simp) ?_
    refine AllReadyH.cons (o := ⟨some 49, _, _, _, _, _⟩) rfl (fun K hK => ?_) AllReadyH.nil
    go_simp
    go_at_call 16; refine (HRn.out _).mono ?_; rintro e w' ⟨rfl, mn, rfl⟩
    refine hK.out _ _ (by (try dsimp only); exact ⟨n0, n1, n2, n3, n4, n5⟩) ?_
    clear hK K hHeld
    intro hHeld
    try simp only [Act.put, List.setIfInBounds_toArray, List.set_cons_zero, List.set_cons_succ]
    refine wpAnyH_take (i := 10) (oi := ⟨some 50, _, _, _, _, _⟩) (v := ?_) rfl (by kernel_rfl) (by kernel_rfl) (by kernel_rfl) (fun _ _ _ h => h) (Or.inl ⟨by rfl, ?_⟩) (by assumption) ?_
    rotate_left
    · (intro w hSw; (try dsimp only at hSw); go_simp; try with_reducible rfl)
    simp only [Act.put, List.setIfInBounds_toArray, List.set_cons_zero, List.set_cons_succ]
    refine wpAnyH_take (i := 11) (oi := ⟨some 5, _, _, _, _, _⟩) (v := ?_) rfl (by kernel_rfl) (by kernel_rfl) (by kernel_rfl) (fun _ _ _ h => h) (Or.inl ⟨by rfl, ?_⟩) (by assumption) ?_
    rotate_left
    · (intro w hSw; (try dsimp only at hSw); go_simp; try with_reducible rfl)
    simp only [Act.put, List.setIfInBounds_toArray, List.set_cons_zero, List.set_cons_succ]
    refine wpAnyH_done (by kernel_rfl) ?_ _
    go_wp2_with fail
    go_ret
    exact ⟨by rw [HX.out]; rfl, by repeat (first | exact HB7.out | refine below_drewN ?_ _ | refine Below.drew ?_ | refine below_alloc ?_ _)⟩
  · have hzb : (imm != 0) = true := bne_iff_ne.2 hz
    obtain ⟨A1, hA1⟩ : ∃ A : List UInt8, A = [83, 84, 82, 32] ++ (regL d) := ⟨_, rfl⟩
    have hcat1 : ∀ wx : World, (Op.stringOp .add ({ data := #[83, 84, 82] } ++ { data := #[32] } : ByteArray) (ba (regL d))).run Try.prog wx = .ok (.string (ba A1)) wx := by
      have hq : ({ data := #[83, 84, 82] } ++ { data := #[32] } : ByteArray) = ba [83, 84, 82, 32] := by kernel_rfl
      rw [hq]
      exact cat_bb (P := Try.prog) _ _ A1 hA1 (by simp; omega)
    obtain ⟨A2, hA2⟩ : ∃ A : List UInt8, A = A1 ++ [44, 91] := ⟨_, rfl⟩
    have hcat2 : ∀ wx : World, (Op.stringOp .add (ba A1) { data := #[44, 91] }).run Try.prog wx = .ok (.string (ba A2)) wx := cat_bb (P := Try.prog) _ _ A2 hA2 (by rw [hA1]; simp; omega)
    obtain ⟨A3, hA3⟩ : ∃ A : List UInt8, A = A2 ++ (regL n) := ⟨_, rfl⟩
    have hcat3 : ∀ wx : World, (Op.stringOp .add (ba A2) (ba (regL n))).run Try.prog wx = .ok (.string (ba A3)) wx := cat_bb (P := Try.prog) _ _ A3 hA3 (by rw [hA2]; rw [hA1]; simp; omega)
    obtain ⟨A4, hA4⟩ : ∃ A : List UInt8, A = A3 ++ [44] := ⟨_, rfl⟩
    have hcat4 : ∀ wx : World, (Op.stringOp .add (ba A3) { data := #[44] }).run Try.prog wx = .ok (.string (ba A4)) wx := cat_bb (P := Try.prog) _ _ A4 hA4 (by rw [hA3]; rw [hA2]; rw [hA1]; simp; omega)
    obtain ⟨A5, hA5⟩ : ∃ A : List UInt8, A = A4 ++ I := ⟨_, rfl⟩
    have hcat5 : ∀ wx : World, (Op.stringOp .add (ba A4) (ba I)).run Try.prog wx = .ok (.string (ba A5)) wx := cat_bb (P := Try.prog) _ _ A5 hA5 (by rw [hA4]; rw [hA3]; rw [hA2]; rw [hA1]; simp; omega)
    obtain ⟨A6, hA6⟩ : ∃ A : List UInt8, A = A5 ++ [93] := ⟨_, rfl⟩
    have hcat6 : ∀ wx : World, (Op.stringOp .add (ba A5) { data := #[93] }).run Try.prog wx = .ok (.string (ba A6)) wx := cat_bb (P := Try.prog) _ _ A6 hA6 (by rw [hA5]; rw [hA4]; rw [hA3]; rw [hA2]; rw [hA1]; simp; omega)
    have HX := Lib.hid (show printA 3 d n m imm kind = A6 by rw [HP.out, hA6, hA5, hA4, hA3, hA2, hA1]; unfold textA; simp [nameL, hz, HIM.out])
    clear hA1 hA2 hA3 hA4 hA5 hA6
    go_wp2_with fail
    refine wp_region_held_drew (S := (fun w' => w'.cell? ⟨w.heap.size, 0, none⟩ = some (.int .i64 3) ∧ w'.cell? ⟨w.heap.size, 1, none⟩ = some (.int .i64 d) ∧ w'.cell? ⟨w.heap.size, 2, none⟩ = some (.int .i64 n) ∧ w'.cell? ⟨w.heap.size, 3, none⟩ = some (.int .i64 m) ∧ w'.cell? ⟨w.heap.size, 4, none⟩ = some (.int .i64 imm) ∧ w'.cell? ⟨w.heap.size, 5, none⟩ = some (.int .i64 kind))) (by kernel_rfl) (by (try dsimp only); exact ⟨n0, n1, n2, n3, n4, n5⟩) (fun hHeld => ?_)
    refine wpAnyH_take (i := 0) (oi := ⟨some 40, _, _, _, _, _⟩) (v := ?_) rfl (by kernel_rfl) (by kernel_rfl) (by kernel_rfl) (fun _ _ _ h => h) (Or.inl ⟨by rfl, ?_⟩) (by assumption) ?_
    rotate_left
    · (intro w hSw; (try dsimp only at hSw); go_simp; try with_reducible rfl)
    simp only [Act.put, List.setIfInBounds_toArray, List.set_cons_zero, List.set_cons_succ]
    refine wpAnyH_take (i := 1) (oi := ⟨some 41, _, _, _, _, _⟩) (v := ?_) rfl (by kernel_rfl) (by kernel_rfl) (by kernel_rfl) (fun _ _ _ h => h) (Or.inl ⟨by rfl, ?_⟩) (by assumption) ?_
    rotate_left
    · (intro w hSw; (try dsimp only at hSw); go_simp; try with_reducible rfl)
    simp only [Act.put, List.setIfInBounds_toArray, List.set_cons_zero, List.set_cons_succ]
    refine wpAnyH_take (i := 2) (oi := ⟨some 42, _, _, _, _, _⟩) (v := ?_) rfl (by kernel_rfl) (by kernel_rfl) (by kernel_rfl) (fun _ _ _ h => h) (Or.inl ⟨by rfl, ?_⟩) (by assumption) ?_
    rotate_left
    · (intro w hSw; (try dsimp only at hSw); go_simp; try with_reducible rfl)
    simp only [Act.put, List.setIfInBounds_toArray, List.set_cons_zero, List.set_cons_succ]
    refine wpAnyH_take (i := 3) (oi := ⟨some 43, _, _, _, _, _⟩) (v := ?_) rfl (by kernel_rfl) (by kernel_rfl) (by kernel_rfl) (fun _ _ _ h => h) (Or.inl ⟨by rfl, ?_⟩) (by assumption) ?_
    rotate_left
    · (intro w hSw; (try dsimp only at hSw); go_simp; try with_reducible rfl)
    simp only [Act.put, List.setIfInBounds_toArray, List.set_cons_zero, List.set_cons_succ]
    refine wpAnyH_take (i := 7) (oi := ⟨some 47, _, _, _, _, _⟩) (v := ?_) rfl (by kernel_rfl) (by kernel_rfl) (by kernel_rfl) (fun _ _ _ h => h) (Or.inl ⟨by rfl, ?_⟩) (by assumption) ?_
    rotate_left
    · (intro w hSw; (try dsimp only at hSw); go_simp; try with_reducible rfl)
    simp only [Act.put, List.setIfInBounds_toArray, List.set_cons_zero, List.set_cons_succ]
    refine wpAnyH_take (i := 8) (oi := ⟨some 48, _, _, _, _, _⟩) (v := ?_) rfl (by kernel_rfl) (by kernel_rfl) (by kernel_rfl) (fun _ _ _ h => h) (Or.inl ⟨by rfl, ?_⟩) (by assumption) ?_
    rotate_left
    · (intro w hSw; (try dsimp only at hSw); go_simp; try with_reducible rfl)
    simp only [Act.put, List.setIfInBounds_toArray, List.set_cons_zero, List.set_cons_succ]
    refine wpAnyH_ready (rs := [4]) (by kernel_rfl) (by simp) ?_
    refine AllReadyH.cons (o := ⟨some 44, _, _, _, _, _⟩) rfl (fun K hK => ?_) AllReadyH.nil
    go_simp
    go_at_call 16; refine (HRd.out _).mono ?_; rintro e w' ⟨rfl, md, rfl⟩
    refine hK.out _ _ (by (try dsimp only); exact ⟨n0, n1, n2, n3, n4, n5⟩) ?_
    clear hK K hHeld
    intro hHeld
    try simp only [Act.put, List.setIfInBounds_toArray, List.set_cons_zero, List.set_cons_succ]
    refine wpAnyH_take (i := 5) (oi := ⟨some 45, _, _, _, _, _⟩) (v := ?_) rfl (by kernel_rfl) (by kernel_rfl) (by kernel_rfl) (fun _ _ _ h => h) (Or.inl ⟨by rfl, ?_⟩) (by assumption) ?_
    rotate_left
    · (intro w hSw; (try dsimp only at hSw); go_simp; try with_reducible rfl)
    simp only [Act.put, List.setIfInBounds_toArray, List.set_cons_zero, List.set_cons_succ]
    refine wpAnyH_take (i := 6) (oi := ⟨some 46, _, _, _, _, _⟩) (v := ?_) rfl (by kernel_rfl) (by kernel_rfl) (by kernel_rfl) (fun _ _ _ h => h) (Or.inl ⟨by rfl, ?_⟩) (by assumption) ?_
    rotate_left
    · (intro w hSw; (try dsimp only at hSw); go_simp; try with_reducible rfl)
    simp only [Act.put, List.setIfInBounds_toArray, List.set_cons_zero, List.set_cons_succ]
    refine wpAnyH_ready (rs := [9]) (by kernel_rfl) (by simp) ?_
    refine AllReadyH.cons (o := ⟨some 49, _, _, _, _, _⟩) rfl (fun K hK => ?_) AllReadyH.nil
    go_simp
    go_at_call 16; refine (HRn.out _).mono ?_; rintro e w' ⟨rfl, mn, rfl⟩
    refine hK.out _ _ (by (try dsimp only); exact ⟨n0, n1, n2, n3, n4, n5⟩) ?_
    clear hK K hHeld
    intro hHeld
    try simp only [Act.put, List.setIfInBounds_toArray, List.set_cons_zero, List.set_cons_succ]
    refine wpAnyH_take (i := 10) (oi := ⟨some 50, _, _, _, _, _⟩) (v := ?_) rfl (by kernel_rfl) (by kernel_rfl) (by kernel_rfl) (fun _ _ _ h => h) (Or.inl ⟨by rfl, ?_⟩) (by assumption) ?_
    rotate_left
    · (intro w hSw; (try dsimp only at hSw); go_simp; try with_reducible rfl)
    simp only [Act.put, List.setIfInBounds_toArray, List.set_cons_zero, List.set_cons_succ]
    refine wpAnyH_take (i := 11) (oi := ⟨some 5, _, _, _, _, _⟩) (v := ?_) rfl (by kernel_rfl) (by kernel_rfl) (by kernel_rfl) (fun _ _ _ h => h) (Or.inl ⟨by rfl, ?_⟩) (by assumption) ?_
    rotate_left
    · (intro w hSw; (try dsimp only at hSw); go_simp; try with_reducible rfl)
    simp only [Act.put, List.setIfInBounds_toArray, List.set_cons_zero, List.set_cons_succ]
    refine wpAnyH_done (by kernel_rfl) ?_ _
    go_wp2_with fail
    go_ret
    exact ⟨by rw [HX.out]; rfl, by repeat (first | exact HB7.out | refine below_drewN ?_ _ | refine Below.drew ?_ | refine below_alloc ?_ _)⟩
set_option maxRecDepth 100000 in
set_option maxHeartbeats 6400000 in
theorem rpr_4 (d n m imm kind : Int) (w : World) (hr : rightP 4 d n m imm kind) :
    Calls Try.prog 10 #[instrW 4 d n m imm kind] w fun e w' => e = .returned (.string (ba (printA 4 d n m imm kind))) ∧ Below w.heap.size w w' := by
  have HB := Lib.hid (below_alloc (Below.refl w.heap.size w) (.cells #[.int .i64 4, .int .i64 d, .int .i64 n, .int .i64 m, .int .i64 imm, .int .i64 kind] 23))
  have HN := Lib.hid (own_instr w 4 d n m imm kind)
  have HC := Lib.hid (right3_any 4 d n m imm kind (w.alloc (.cells #[.int .i64 4, .int .i64 d, .int .i64 n, .int .i64 m, .int .i64 imm, .int .i64 kind] 23)))
  rw [right_yes hr] at HC
  have HP := Lib.hid (show printA 4 d n m imm kind = textA 4 d n m imm kind from if_pos hr)
  obtain ⟨⟨hop, hd, hn, hm⟩, hB, hCC, hDD⟩ := hr
  have hi : I64 imm := by unfold rightB at hB; unfold rightC at hCC; constructor <;> omega
  have hneg : ¬ imm < 0 := by unfold rightB at hB; unfold rightC at hCC; omega
  have HZ0 := Lib.hid (show imm = 0 by unfold rightB at hB; omega)
  have HRC := Lib.hid hCC
  have HRDD := Lib.hid hDD
  clear hB hCC hDD
  have HII := Lib.hid (fun w1 => rint_any imm w1 hi)
  have HRd := Lib.hid (fun w1 => rreg_any d w1 (by omega))
  have HRn := Lib.hid (fun w1 => rreg_any n w1 (by omega))
  have HRm := Lib.hid (fun w1 => rreg_any m w1 (by omega))
  have bI := intL_len imm hi
  have bD := regL_len d (by constructor <;> omega)
  have bN := regL_len n (by constructor <;> omega)
  have bM := regL_len m (by constructor <;> omega)
  obtain ⟨I, hI⟩ : ∃ I : List UInt8, I = [35] ++ intL imm := ⟨_, rfl⟩
  have hcatI : ∀ wx : World, (Op.stringOp .add { data := #[35] } (ba (intL imm))).run Try.prog wx = .ok (.string (ba I)) wx := cat_bb (P := Try.prog) [35] _ I hI (by simp; omega)
  obtain ⟨TP, hTP⟩ : ∃ I : List UInt8, I = [46, 43] ++ intL imm := ⟨_, rfl⟩
  have hcatP : ∀ wx : World, (Op.stringOp .add { data := #[46, 43] } (ba (intL imm))).run Try.prog wx = .ok (.string (ba TP)) wx := cat_bb (P := Try.prog) [46, 43] _ TP hTP (by simp; omega)
  obtain ⟨TN, hTN⟩ : ∃ I : List UInt8, I = [46] ++ intL imm := ⟨_, rfl⟩
  have hcatN : ∀ wx : World, (Op.stringOp .add { data := #[46] } (ba (intL imm))).run Try.prog wx = .ok (.string (ba TN)) wx := cat_bb (P := Try.prog) [46] _ TN hTN (by simp; omega)
  have bII : I.length ≤ 66 := by rw [hI]; simp; omega
  have bTP : TP.length ≤ 67 := by rw [hTP]; simp; omega
  have bTN : TN.length ≤ 67 := by rw [hTN]; simp; omega
  have HIM := Lib.hid (show immL imm = I from hI.symm)
  have HTP := Lib.hid (fun (h : ¬ imm < 0) => show targetL imm = TP by unfold targetL; rw [if_neg h, hTP])
  have HTN := Lib.hid (fun (h : imm < 0) => show targetL imm = TN by unfold targetL; rw [if_pos h, hTN])
  clear hI hTP hTN
  go_enter Try.func10, Try.ntmps10
  go_wp2_with fail
  refine (HC.out).mono ?_
  rintro e w2 ⟨rfl, hb⟩
  have HB2 := Lib.hid (below_trans HB.out hb)
  have hlt := (HN.out.below hb).lt
  have HN2 := Lib.hid (HN.out.below hb)
  obtain ⟨n0, n1, n2, n3, n4, n5⟩ := blk_instr HN2.out
  clear hb HN HB HC
  go_wp2_with fail
  refine (HII.out _).mono ?_
  rintro e w' ⟨rfl, m1, rfl⟩
  go_wp2_with fail
  refine (HII.out _).mono ?_
  rintro e w' ⟨rfl, m2, rfl⟩
  clear HTP HTN
  go_wp2_with fail
  refine (rname_4 _).mono ?_
  rintro e w7 ⟨rfl, hb⟩
  have HB7 := Lib.hid (below_trans (below_drewN HB2.out _) hb)
  have HN7 := Lib.hid ((HN2.out.dn _).below hb)
  have hlt7 := HN7.out.lt
  clear hb n0 n1 n2 n3 n4 n5 hlt HB2 HN2
  obtain ⟨n0, n1, n2, n3, n4, n5⟩ := blk_instr HN7.out
  have hz : imm = 0 := HZ0.out
  clear HZ0
  subst hz
  obtain ⟨A1, hA1⟩ : ∃ A : List UInt8, A = [76, 68, 65, 82, 32] ++ (regL d) := ⟨_, rfl⟩
  have hcat1 : ∀ wx : World, (Op.stringOp .add ({ data := #[76, 68, 65, 82] } ++ { data := #[32] } : ByteArray) (ba (regL d))).run Try.prog wx = .ok (.string (ba A1)) wx := by
    have hq : ({ data := #[76, 68, 65, 82] } ++ { data := #[32] } : ByteArray) = ba [76, 68, 65, 82, 32] := by kernel_rfl
    rw [hq]
    exact cat_bb (P := Try.prog) _ _ A1 hA1 (by simp; omega)
  obtain ⟨A2, hA2⟩ : ∃ A : List UInt8, A = A1 ++ [44, 91] := ⟨_, rfl⟩
  have hcat2 : ∀ wx : World, (Op.stringOp .add (ba A1) { data := #[44, 91] }).run Try.prog wx = .ok (.string (ba A2)) wx := cat_bb (P := Try.prog) _ _ A2 hA2 (by rw [hA1]; simp; omega)
  obtain ⟨A3, hA3⟩ : ∃ A : List UInt8, A = A2 ++ (regL n) := ⟨_, rfl⟩
  have hcat3 : ∀ wx : World, (Op.stringOp .add (ba A2) (ba (regL n))).run Try.prog wx = .ok (.string (ba A3)) wx := cat_bb (P := Try.prog) _ _ A3 hA3 (by rw [hA2]; rw [hA1]; simp; omega)
  obtain ⟨A4, hA4⟩ : ∃ A : List UInt8, A = A3 ++ [93] := ⟨_, rfl⟩
  have hcat4 : ∀ wx : World, (Op.stringOp .add (ba A3) { data := #[93] }).run Try.prog wx = .ok (.string (ba A4)) wx := cat_bb (P := Try.prog) _ _ A4 hA4 (by rw [hA3]; rw [hA2]; rw [hA1]; simp; omega)
  have HX := Lib.hid (show printA 4 d n m 0 kind = A4 by rw [HP.out, hA4, hA3, hA2, hA1]; unfold textA; simp [nameL])
  clear hA1 hA2 hA3 hA4
  go_wp2_with fail
  refine wp_region_held_drew (S := (fun w' => w'.cell? ⟨w.heap.size, 0, none⟩ = some (.int .i64 4) ∧ w'.cell? ⟨w.heap.size, 1, none⟩ = some (.int .i64 d) ∧ w'.cell? ⟨w.heap.size, 2, none⟩ = some (.int .i64 n) ∧ w'.cell? ⟨w.heap.size, 3, none⟩ = some (.int .i64 m) ∧ w'.cell? ⟨w.heap.size, 4, none⟩ = some (.int .i64 0) ∧ w'.cell? ⟨w.heap.size, 5, none⟩ = some (.int .i64 kind))) (by kernel_rfl) (by (try dsimp only); exact ⟨n0, n1, n2, n3, n4, n5⟩) (fun hHeld => ?_)
  refine wpAnyH_take (i := 0) (oi := ⟨some 40, _, _, _, _, _⟩) (v := ?_) rfl (by kernel_rfl) (by kernel_rfl) (by kernel_rfl) (fun _ _ _ h => h) (Or.inl ⟨by rfl, ?_⟩) (by assumption) ?_
  rotate_left
  · (intro w hSw; (try dsimp only at hSw); go_simp; try with_reducible rfl)
  simp only [Act.put, List.setIfInBounds_toArray, List.set_cons_zero, List.set_cons_succ]
  refine wpAnyH_take (i := 1) (oi := ⟨some 41, _, _, _, _, _⟩) (v := ?_) rfl (by kernel_rfl) (by kernel_rfl) (by kernel_rfl) (fun _ _ _ h => h) (Or.inl ⟨by rfl, ?_⟩) (by assumption) ?_
  rotate_left
  · (intro w hSw; (try dsimp only at hSw); go_simp; try with_reducible rfl)
  simp only [Act.put, List.setIfInBounds_toArray, List.set_cons_zero, List.set_cons_succ]
  refine wpAnyH_take (i := 2) (oi := ⟨some 42, _, _, _, _, _⟩) (v := ?_) rfl (by kernel_rfl) (by kernel_rfl) (by kernel_rfl) (fun _ _ _ h => h) (Or.inl ⟨by rfl, ?_⟩) (by assumption) ?_
  rotate_left
  · (intro w hSw; (try dsimp only at hSw); go_simp; try with_reducible rfl)
  simp only [Act.put, List.setIfInBounds_toArray, List.set_cons_zero, List.set_cons_succ]
  refine wpAnyH_take (i := 3) (oi := ⟨some 43, _, _, _, _, _⟩) (v := ?_) rfl (by kernel_rfl) (by kernel_rfl) (by kernel_rfl) (fun _ _ _ h => h) (Or.inl ⟨by rfl, ?_⟩) (by assumption) ?_
  rotate_left
  · (intro w hSw; (try dsimp only at hSw); go_simp; try with_reducible rfl)
  simp only [Act.put, List.setIfInBounds_toArray, List.set_cons_zero, List.set_cons_succ]
  refine wpAnyH_take (i := 7) (oi := ⟨some 47, _, _, _, _, _⟩) (v := ?_) rfl (by kernel_rfl) (by kernel_rfl) (by kernel_rfl) (fun _ _ _ h => h) (Or.inl ⟨by rfl, ?_⟩) (by assumption) ?_
  rotate_left
  · (intro w hSw; (try dsimp only at hSw); go_simp; try with_reducible rfl)
  simp only [Act.put, List.setIfInBounds_toArray, List.set_cons_zero, List.set_cons_succ]
  refine wpAnyH_take (i := 8) (oi := ⟨some 48, _, _, _, _, _⟩) (v := ?_) rfl (by kernel_rfl) (by kernel_rfl) (by kernel_rfl) (fun _ _ _ h => h) (Or.inl ⟨by rfl, ?_⟩) (by assumption) ?_
  rotate_left
  · (intro w hSw; (try dsimp only at hSw); go_simp; try with_reducible rfl)
  simp only [Act.put, List.setIfInBounds_toArray, List.set_cons_zero, List.set_cons_succ]
  refine wpAnyH_ready (rs := [4]) (by kernel_rfl) (by simp) ?_
  refine AllReadyH.cons (o := ⟨some 44, _, _, _, _, _⟩) rfl (fun K hK => ?_) AllReadyH.nil
  go_simp
  go_at_call 16; refine (HRd.out _).mono ?_; rintro e w' ⟨rfl, md, rfl⟩
  refine hK.out _ _ (by (try dsimp only); exact ⟨n0, n1, n2, n3, n4, n5⟩) ?_
  clear hK K hHeld
  intro hHeld
  try simp only [Act.put, List.setIfInBounds_toArray, List.set_cons_zero, List.set_cons_succ]
  refine wpAnyH_take (i := 5) (oi := ⟨some 45, _, _, _, _, _⟩) (v := ?_) rfl (by kernel_rfl) (by kernel_rfl) (by kernel_rfl) (fun _ _ _ h => h) (Or.inl ⟨by rfl, ?_⟩) (by assumption) ?_
  rotate_left
  · (intro w hSw; (try dsimp only at hSw); go_simp; try with_reducible rfl)
  simp only [Act.put, List.setIfInBounds_toArray, List.set_cons_zero, List.set_cons_succ]
  refine wpAnyH_take (i := 6) (oi := ⟨some 46, _, _, _, _, _⟩) (v := ?_) rfl (by kernel_rfl) (by kernel_rfl) (by kernel_rfl) (fun _ _ _ h => h) (Or.inl ⟨by rfl, ?_⟩) (by assumption) ?_
  rotate_left
  · (intro w hSw; (try dsimp only at hSw); go_simp; try with_reducible rfl)
  simp only [Act.put, List.setIfInBounds_toArray, List.set_cons_zero, List.set_cons_succ]
  refine wpAnyH_ready (rs := [9]) (by kernel_rfl) (by simp) ?_
  refine AllReadyH.cons (o := ⟨some 49, _, _, _, _, _⟩) rfl (fun K hK => ?_) AllReadyH.nil
  go_simp
  go_at_call 16; refine (HRn.out _).mono ?_; rintro e w' ⟨rfl, mn, rfl⟩
  refine hK.out _ _ (by (try dsimp only); exact ⟨n0, n1, n2, n3, n4, n5⟩) ?_
  clear hK K hHeld
  intro hHeld
  try simp only [Act.put, List.setIfInBounds_toArray, List.set_cons_zero, List.set_cons_succ]
  refine wpAnyH_take (i := 10) (oi := ⟨some 50, _, _, _, _, _⟩) (v := ?_) rfl (by kernel_rfl) (by kernel_rfl) (by kernel_rfl) (fun _ _ _ h => h) (Or.inl ⟨by rfl, ?_⟩) (by assumption) ?_
  rotate_left
  · (intro w hSw; (try dsimp only at hSw); go_simp; try with_reducible rfl)
  simp only [Act.put, List.setIfInBounds_toArray, List.set_cons_zero, List.set_cons_succ]
  refine wpAnyH_take (i := 11) (oi := ⟨some 5, _, _, _, _, _⟩) (v := ?_) rfl (by kernel_rfl) (by kernel_rfl) (by kernel_rfl) (fun _ _ _ h => h) (Or.inl ⟨by rfl, ?_⟩) (by assumption) ?_
  rotate_left
  · (intro w hSw; (try dsimp only at hSw); go_simp; try with_reducible rfl)
  simp only [Act.put, List.setIfInBounds_toArray, List.set_cons_zero, List.set_cons_succ]
  refine wpAnyH_done (by kernel_rfl) ?_ _
  go_wp2_with fail
  go_ret
  exact ⟨by rw [HX.out]; rfl, by repeat (first | exact HB7.out | refine below_drewN ?_ _ | refine Below.drew ?_ | refine below_alloc ?_ _)⟩
set_option maxRecDepth 100000 in
set_option maxHeartbeats 6400000 in
theorem rpr_5 (d n m imm kind : Int) (w : World) (hr : rightP 5 d n m imm kind) :
    Calls Try.prog 10 #[instrW 5 d n m imm kind] w fun e w' => e = .returned (.string (ba (printA 5 d n m imm kind))) ∧ Below w.heap.size w w' := by
  have HB := Lib.hid (below_alloc (Below.refl w.heap.size w) (.cells #[.int .i64 5, .int .i64 d, .int .i64 n, .int .i64 m, .int .i64 imm, .int .i64 kind] 23))
  have HN := Lib.hid (own_instr w 5 d n m imm kind)
  have HC := Lib.hid (right3_any 5 d n m imm kind (w.alloc (.cells #[.int .i64 5, .int .i64 d, .int .i64 n, .int .i64 m, .int .i64 imm, .int .i64 kind] 23)))
  rw [right_yes hr] at HC
  have HP := Lib.hid (show printA 5 d n m imm kind = textA 5 d n m imm kind from if_pos hr)
  obtain ⟨⟨hop, hd, hn, hm⟩, hB, hCC, hDD⟩ := hr
  have hi : I64 imm := by unfold rightB at hB; unfold rightC at hCC; constructor <;> omega
  have hneg : ¬ imm < 0 := by unfold rightB at hB; unfold rightC at hCC; omega
  have HZ0 := Lib.hid (show imm = 0 by unfold rightB at hB; omega)
  have HRC := Lib.hid hCC
  have HRDD := Lib.hid hDD
  clear hB hCC hDD
  have HII := Lib.hid (fun w1 => rint_any imm w1 hi)
  have HRd := Lib.hid (fun w1 => rreg_any d w1 (by omega))
  have HRn := Lib.hid (fun w1 => rreg_any n w1 (by omega))
  have HRm := Lib.hid (fun w1 => rreg_any m w1 (by omega))
  have bI := intL_len imm hi
  have bD := regL_len d (by constructor <;> omega)
  have bN := regL_len n (by constructor <;> omega)
  have bM := regL_len m (by constructor <;> omega)
  obtain ⟨I, hI⟩ : ∃ I : List UInt8, I = [35] ++ intL imm := ⟨_, rfl⟩
  have hcatI : ∀ wx : World, (Op.stringOp .add { data := #[35] } (ba (intL imm))).run Try.prog wx = .ok (.string (ba I)) wx := cat_bb (P := Try.prog) [35] _ I hI (by simp; omega)
  obtain ⟨TP, hTP⟩ : ∃ I : List UInt8, I = [46, 43] ++ intL imm := ⟨_, rfl⟩
  have hcatP : ∀ wx : World, (Op.stringOp .add { data := #[46, 43] } (ba (intL imm))).run Try.prog wx = .ok (.string (ba TP)) wx := cat_bb (P := Try.prog) [46, 43] _ TP hTP (by simp; omega)
  obtain ⟨TN, hTN⟩ : ∃ I : List UInt8, I = [46] ++ intL imm := ⟨_, rfl⟩
  have hcatN : ∀ wx : World, (Op.stringOp .add { data := #[46] } (ba (intL imm))).run Try.prog wx = .ok (.string (ba TN)) wx := cat_bb (P := Try.prog) [46] _ TN hTN (by simp; omega)
  have bII : I.length ≤ 66 := by rw [hI]; simp; omega
  have bTP : TP.length ≤ 67 := by rw [hTP]; simp; omega
  have bTN : TN.length ≤ 67 := by rw [hTN]; simp; omega
  have HIM := Lib.hid (show immL imm = I from hI.symm)
  have HTP := Lib.hid (fun (h : ¬ imm < 0) => show targetL imm = TP by unfold targetL; rw [if_neg h, hTP])
  have HTN := Lib.hid (fun (h : imm < 0) => show targetL imm = TN by unfold targetL; rw [if_pos h, hTN])
  clear hI hTP hTN
  go_enter Try.func10, Try.ntmps10
  go_wp2_with fail
  refine (HC.out).mono ?_
  rintro e w2 ⟨rfl, hb⟩
  have HB2 := Lib.hid (below_trans HB.out hb)
  have hlt := (HN.out.below hb).lt
  have HN2 := Lib.hid (HN.out.below hb)
  obtain ⟨n0, n1, n2, n3, n4, n5⟩ := blk_instr HN2.out
  clear hb HN HB HC
  go_wp2_with fail
  refine (HII.out _).mono ?_
  rintro e w' ⟨rfl, m1, rfl⟩
  go_wp2_with fail
  refine (HII.out _).mono ?_
  rintro e w' ⟨rfl, m2, rfl⟩
  clear HTP HTN
  go_wp2_with fail
  refine (rname_5 _).mono ?_
  rintro e w7 ⟨rfl, hb⟩
  have HB7 := Lib.hid (below_trans (below_drewN HB2.out _) hb)
  have HN7 := Lib.hid ((HN2.out.dn _).below hb)
  have hlt7 := HN7.out.lt
  clear hb n0 n1 n2 n3 n4 n5 hlt HB2 HN2
  obtain ⟨n0, n1, n2, n3, n4, n5⟩ := blk_instr HN7.out
  have hz : imm = 0 := HZ0.out
  clear HZ0
  subst hz
  obtain ⟨A1, hA1⟩ : ∃ A : List UInt8, A = [83, 84, 76, 82, 32] ++ (regL d) := ⟨_, rfl⟩
  have hcat1 : ∀ wx : World, (Op.stringOp .add ({ data := #[83, 84, 76, 82] } ++ { data := #[32] } : ByteArray) (ba (regL d))).run Try.prog wx = .ok (.string (ba A1)) wx := by
    have hq : ({ data := #[83, 84, 76, 82] } ++ { data := #[32] } : ByteArray) = ba [83, 84, 76, 82, 32] := by kernel_rfl
    rw [hq]
    exact cat_bb (P := Try.prog) _ _ A1 hA1 (by simp; omega)
  obtain ⟨A2, hA2⟩ : ∃ A : List UInt8, A = A1 ++ [44, 91] := ⟨_, rfl⟩
  have hcat2 : ∀ wx : World, (Op.stringOp .add (ba A1) { data := #[44, 91] }).run Try.prog wx = .ok (.string (ba A2)) wx := cat_bb (P := Try.prog) _ _ A2 hA2 (by rw [hA1]; simp; omega)
  obtain ⟨A3, hA3⟩ : ∃ A : List UInt8, A = A2 ++ (regL n) := ⟨_, rfl⟩
  have hcat3 : ∀ wx : World, (Op.stringOp .add (ba A2) (ba (regL n))).run Try.prog wx = .ok (.string (ba A3)) wx := cat_bb (P := Try.prog) _ _ A3 hA3 (by rw [hA2]; rw [hA1]; simp; omega)
  obtain ⟨A4, hA4⟩ : ∃ A : List UInt8, A = A3 ++ [93] := ⟨_, rfl⟩
  have hcat4 : ∀ wx : World, (Op.stringOp .add (ba A3) { data := #[93] }).run Try.prog wx = .ok (.string (ba A4)) wx := cat_bb (P := Try.prog) _ _ A4 hA4 (by rw [hA3]; rw [hA2]; rw [hA1]; simp; omega)
  have HX := Lib.hid (show printA 5 d n m 0 kind = A4 by rw [HP.out, hA4, hA3, hA2, hA1]; unfold textA; simp [nameL])
  clear hA1 hA2 hA3 hA4
  go_wp2_with fail
  refine wp_region_held_drew (S := (fun w' => w'.cell? ⟨w.heap.size, 0, none⟩ = some (.int .i64 5) ∧ w'.cell? ⟨w.heap.size, 1, none⟩ = some (.int .i64 d) ∧ w'.cell? ⟨w.heap.size, 2, none⟩ = some (.int .i64 n) ∧ w'.cell? ⟨w.heap.size, 3, none⟩ = some (.int .i64 m) ∧ w'.cell? ⟨w.heap.size, 4, none⟩ = some (.int .i64 0) ∧ w'.cell? ⟨w.heap.size, 5, none⟩ = some (.int .i64 kind))) (by kernel_rfl) (by (try dsimp only); exact ⟨n0, n1, n2, n3, n4, n5⟩) (fun hHeld => ?_)
  refine wpAnyH_take (i := 0) (oi := ⟨some 40, _, _, _, _, _⟩) (v := ?_) rfl (by kernel_rfl) (by kernel_rfl) (by kernel_rfl) (fun _ _ _ h => h) (Or.inl ⟨by rfl, ?_⟩) (by assumption) ?_
  rotate_left
  · (intro w hSw; (try dsimp only at hSw); go_simp; try with_reducible rfl)
  simp only [Act.put, List.setIfInBounds_toArray, List.set_cons_zero, List.set_cons_succ]
  refine wpAnyH_take (i := 1) (oi := ⟨some 41, _, _, _, _, _⟩) (v := ?_) rfl (by kernel_rfl) (by kernel_rfl) (by kernel_rfl) (fun _ _ _ h => h) (Or.inl ⟨by rfl, ?_⟩) (by assumption) ?_
  rotate_left
  · (intro w hSw; (try dsimp only at hSw); go_simp; try with_reducible rfl)
  simp only [Act.put, List.setIfInBounds_toArray, List.set_cons_zero, List.set_cons_succ]
  refine wpAnyH_take (i := 2) (oi := ⟨some 42, _, _, _, _, _⟩) (v := ?_) rfl (by kernel_rfl) (by kernel_rfl) (by kernel_rfl) (fun _ _ _ h => h) (Or.inl ⟨by rfl, ?_⟩) (by assumption) ?_
  rotate_left
  · (intro w hSw; (try dsimp only at hSw); go_simp; try with_reducible rfl)
  simp only [Act.put, List.setIfInBounds_toArray, List.set_cons_zero, List.set_cons_succ]
  refine wpAnyH_take (i := 3) (oi := ⟨some 43, _, _, _, _, _⟩) (v := ?_) rfl (by kernel_rfl) (by kernel_rfl) (by kernel_rfl) (fun _ _ _ h => h) (Or.inl ⟨by rfl, ?_⟩) (by assumption) ?_
  rotate_left
  · (intro w hSw; (try dsimp only at hSw); go_simp; try with_reducible rfl)
  simp only [Act.put, List.setIfInBounds_toArray, List.set_cons_zero, List.set_cons_succ]
  refine wpAnyH_take (i := 7) (oi := ⟨some 47, _, _, _, _, _⟩) (v := ?_) rfl (by kernel_rfl) (by kernel_rfl) (by kernel_rfl) (fun _ _ _ h => h) (Or.inl ⟨by rfl, ?_⟩) (by assumption) ?_
  rotate_left
  · (intro w hSw; (try dsimp only at hSw); go_simp; try with_reducible rfl)
  simp only [Act.put, List.setIfInBounds_toArray, List.set_cons_zero, List.set_cons_succ]
  refine wpAnyH_take (i := 8) (oi := ⟨some 48, _, _, _, _, _⟩) (v := ?_) rfl (by kernel_rfl) (by kernel_rfl) (by kernel_rfl) (fun _ _ _ h => h) (Or.inl ⟨by rfl, ?_⟩) (by assumption) ?_
  rotate_left
  · (intro w hSw; (try dsimp only at hSw); go_simp; try with_reducible rfl)
  simp only [Act.put, List.setIfInBounds_toArray, List.set_cons_zero, List.set_cons_succ]
  refine wpAnyH_ready (rs := [4]) (by kernel_rfl) (by simp) ?_
  refine AllReadyH.cons (o := ⟨some 44, _, _, _, _, _⟩) rfl (fun K hK => ?_) AllReadyH.nil
  go_simp
  go_at_call 16; refine (HRd.out _).mono ?_; rintro e w' ⟨rfl, md, rfl⟩
  refine hK.out _ _ (by (try dsimp only); exact ⟨n0, n1, n2, n3, n4, n5⟩) ?_
  clear hK K hHeld
  intro hHeld
  try simp only [Act.put, List.setIfInBounds_toArray, List.set_cons_zero, List.set_cons_succ]
  refine wpAnyH_take (i := 5) (oi := ⟨some 45, _, _, _, _, _⟩) (v := ?_) rfl (by kernel_rfl) (by kernel_rfl) (by kernel_rfl) (fun _ _ _ h => h) (Or.inl ⟨by rfl, ?_⟩) (by assumption) ?_
  rotate_left
  · (intro w hSw; (try dsimp only at hSw); go_simp; try with_reducible rfl)
  simp only [Act.put, List.setIfInBounds_toArray, List.set_cons_zero, List.set_cons_succ]
  refine wpAnyH_take (i := 6) (oi := ⟨some 46, _, _, _, _, _⟩) (v := ?_) rfl (by kernel_rfl) (by kernel_rfl) (by kernel_rfl) (fun _ _ _ h => h) (Or.inl ⟨by rfl, ?_⟩) (by assumption) ?_
  rotate_left
  · (intro w hSw; (try dsimp only at hSw); go_simp; try with_reducible rfl)
  simp only [Act.put, List.setIfInBounds_toArray, List.set_cons_zero, List.set_cons_succ]
  refine wpAnyH_ready (rs := [9]) (by kernel_rfl) (by simp) ?_
  refine AllReadyH.cons (o := ⟨some 49, _, _, _, _, _⟩) rfl (fun K hK => ?_) AllReadyH.nil
  go_simp
  go_at_call 16; refine (HRn.out _).mono ?_; rintro e w' ⟨rfl, mn, rfl⟩
  refine hK.out _ _ (by (try dsimp only); exact ⟨n0, n1, n2, n3, n4, n5⟩) ?_
  clear hK K hHeld
  intro hHeld
  try simp only [Act.put, List.setIfInBounds_toArray, List.set_cons_zero, List.set_cons_succ]
  refine wpAnyH_take (i := 10) (oi := ⟨some 50, _, _, _, _, _⟩) (v := ?_) rfl (by kernel_rfl) (by kernel_rfl) (by kernel_rfl) (fun _ _ _ h => h) (Or.inl ⟨by rfl, ?_⟩) (by assumption) ?_
  rotate_left
  · (intro w hSw; (try dsimp only at hSw); go_simp; try with_reducible rfl)
  simp only [Act.put, List.setIfInBounds_toArray, List.set_cons_zero, List.set_cons_succ]
  refine wpAnyH_take (i := 11) (oi := ⟨some 5, _, _, _, _, _⟩) (v := ?_) rfl (by kernel_rfl) (by kernel_rfl) (by kernel_rfl) (fun _ _ _ h => h) (Or.inl ⟨by rfl, ?_⟩) (by assumption) ?_
  rotate_left
  · (intro w hSw; (try dsimp only at hSw); go_simp; try with_reducible rfl)
  simp only [Act.put, List.setIfInBounds_toArray, List.set_cons_zero, List.set_cons_succ]
  refine wpAnyH_done (by kernel_rfl) ?_ _
  go_wp2_with fail
  go_ret
  exact ⟨by rw [HX.out]; rfl, by repeat (first | exact HB7.out | refine below_drewN ?_ _ | refine Below.drew ?_ | refine below_alloc ?_ _)⟩
set_option maxRecDepth 100000 in
set_option maxHeartbeats 6400000 in
theorem rpr_6 (d n m imm kind : Int) (w : World) (hr : rightP 6 d n m imm kind) :
    Calls Try.prog 10 #[instrW 6 d n m imm kind] w fun e w' => e = .returned (.string (ba (printA 6 d n m imm kind))) ∧ Below w.heap.size w w' := by
  have HB := Lib.hid (below_alloc (Below.refl w.heap.size w) (.cells #[.int .i64 6, .int .i64 d, .int .i64 n, .int .i64 m, .int .i64 imm, .int .i64 kind] 23))
  have HN := Lib.hid (own_instr w 6 d n m imm kind)
  have HC := Lib.hid (right3_any 6 d n m imm kind (w.alloc (.cells #[.int .i64 6, .int .i64 d, .int .i64 n, .int .i64 m, .int .i64 imm, .int .i64 kind] 23)))
  rw [right_yes hr] at HC
  have HP := Lib.hid (show printA 6 d n m imm kind = textA 6 d n m imm kind from if_pos hr)
  obtain ⟨⟨hop, hd, hn, hm⟩, hB, hCC, hDD⟩ := hr
  have hi : I64 imm := by unfold rightB at hB; unfold rightC at hCC; constructor <;> omega
  have hneg : ¬ imm < 0 := by unfold rightB at hB; unfold rightC at hCC; omega
  have HRC := Lib.hid hCC
  have HRDD := Lib.hid hDD
  clear hB hCC hDD
  have HII := Lib.hid (fun w1 => rint_any imm w1 hi)
  have HRd := Lib.hid (fun w1 => rreg_any d w1 (by omega))
  have HRn := Lib.hid (fun w1 => rreg_any n w1 (by omega))
  have HRm := Lib.hid (fun w1 => rreg_any m w1 (by omega))
  have bI := intL_len imm hi
  have bD := regL_len d (by constructor <;> omega)
  have bN := regL_len n (by constructor <;> omega)
  have bM := regL_len m (by constructor <;> omega)
  obtain ⟨I, hI⟩ : ∃ I : List UInt8, I = [35] ++ intL imm := ⟨_, rfl⟩
  have hcatI : ∀ wx : World, (Op.stringOp .add { data := #[35] } (ba (intL imm))).run Try.prog wx = .ok (.string (ba I)) wx := cat_bb (P := Try.prog) [35] _ I hI (by simp; omega)
  obtain ⟨TP, hTP⟩ : ∃ I : List UInt8, I = [46, 43] ++ intL imm := ⟨_, rfl⟩
  have hcatP : ∀ wx : World, (Op.stringOp .add { data := #[46, 43] } (ba (intL imm))).run Try.prog wx = .ok (.string (ba TP)) wx := cat_bb (P := Try.prog) [46, 43] _ TP hTP (by simp; omega)
  obtain ⟨TN, hTN⟩ : ∃ I : List UInt8, I = [46] ++ intL imm := ⟨_, rfl⟩
  have hcatN : ∀ wx : World, (Op.stringOp .add { data := #[46] } (ba (intL imm))).run Try.prog wx = .ok (.string (ba TN)) wx := cat_bb (P := Try.prog) [46] _ TN hTN (by simp; omega)
  have bII : I.length ≤ 66 := by rw [hI]; simp; omega
  have bTP : TP.length ≤ 67 := by rw [hTP]; simp; omega
  have bTN : TN.length ≤ 67 := by rw [hTN]; simp; omega
  have HIM := Lib.hid (show immL imm = I from hI.symm)
  have HTP := Lib.hid (fun (h : ¬ imm < 0) => show targetL imm = TP by unfold targetL; rw [if_neg h, hTP])
  have HTN := Lib.hid (fun (h : imm < 0) => show targetL imm = TN by unfold targetL; rw [if_pos h, hTN])
  clear hI hTP hTN
  go_enter Try.func10, Try.ntmps10
  go_wp2_with fail
  refine (HC.out).mono ?_
  rintro e w2 ⟨rfl, hb⟩
  have HB2 := Lib.hid (below_trans HB.out hb)
  have hlt := (HN.out.below hb).lt
  have HN2 := Lib.hid (HN.out.below hb)
  obtain ⟨n0, n1, n2, n3, n4, n5⟩ := blk_instr HN2.out
  clear hb HN HB HC
  go_wp2_with fail
  refine (HII.out _).mono ?_
  rintro e w' ⟨rfl, m1, rfl⟩
  go_wp2_with fail
  refine (HII.out _).mono ?_
  rintro e w' ⟨rfl, m2, rfl⟩
  clear HTP HTN
  go_wp2_with fail
  refine (rname_6 _).mono ?_
  rintro e w7 ⟨rfl, hb⟩
  have HB7 := Lib.hid (below_trans (below_drewN HB2.out _) hb)
  have HN7 := Lib.hid ((HN2.out.dn _).below hb)
  have hlt7 := HN7.out.lt
  clear hb n0 n1 n2 n3 n4 n5 hlt HB2 HN2
  obtain ⟨n0, n1, n2, n3, n4, n5⟩ := blk_instr HN7.out
  by_cases hz : kind = 0
  · subst hz
    obtain ⟨A1, hA1⟩ : ∃ A : List UInt8, A = [77, 79, 86, 32] ++ (regL d) := ⟨_, rfl⟩
    have hcat1 : ∀ wx : World, (Op.stringOp .add ({ data := #[77, 79, 86, 32] } : ByteArray) (ba (regL d))).run Try.prog wx = .ok (.string (ba A1)) wx := cat_bb (P := Try.prog) _ _ A1 hA1 (by simp; omega)
    obtain ⟨A2, hA2⟩ : ∃ A : List UInt8, A = A1 ++ [44] := ⟨_, rfl⟩
    have hcat2 : ∀ wx : World, (Op.stringOp .add (ba A1) { data := #[44] }).run Try.prog wx = .ok (.string (ba A2)) wx := cat_bb (P := Try.prog) _ _ A2 hA2 (by rw [hA1]; simp; omega)
    obtain ⟨A3, hA3⟩ : ∃ A : List UInt8, A = A2 ++ I := ⟨_, rfl⟩
    have hcat3 : ∀ wx : World, (Op.stringOp .add (ba A2) (ba I)).run Try.prog wx = .ok (.string (ba A3)) wx := cat_bb (P := Try.prog) _ _ A3 hA3 (by rw [hA2]; rw [hA1]; simp; omega)
    have HX := Lib.hid (show printA 6 d n m imm 0 = A3 by rw [HP.out, hA3, hA2, hA1]; unfold textA; simp [HIM.out])
    clear hA1 hA2 hA3
    go_wp2_with fail
    refine (HRd.out _).mono ?_
    rintro e w' ⟨rfl, md, rfl⟩
    go_wp2_with fail
    go_ret
    exact ⟨by rw [HX.out]; rfl, by repeat (first | exact HB7.out | refine below_drewN ?_ _ | refine Below.drew ?_ | refine below_alloc ?_ _)⟩
  · have hk3 : 0 ≤ kind ∧ kind ≤ 3 := by have := HRC.out; unfold rightC at this; omega
    have hkp : 0 < kind := by omega
    have hw16 : IntKind.i64.wrap (16 * kind) = 16 * kind := IntWalk.i64_in _ (by omega)
    have HK := Lib.hid (fun w1 => rint_any (16 * kind) w1 (by omega))
    have bK := intL_len (16 * kind) (by omega)
    obtain ⟨A1, hA1⟩ : ∃ A : List UInt8, A = [77, 79, 86, 90, 32] ++ (regL d) := ⟨_, rfl⟩
    have hcat1 : ∀ wx : World, (Op.stringOp .add ({ data := #[77, 79, 86, 90, 32] } : ByteArray) (ba (regL d))).run Try.prog wx = .ok (.string (ba A1)) wx := cat_bb (P := Try.prog) _ _ A1 hA1 (by simp; omega)
    obtain ⟨A2, hA2⟩ : ∃ A : List UInt8, A = A1 ++ [44] := ⟨_, rfl⟩
    have hcat2 : ∀ wx : World, (Op.stringOp .add (ba A1) { data := #[44] }).run Try.prog wx = .ok (.string (ba A2)) wx := cat_bb (P := Try.prog) _ _ A2 hA2 (by rw [hA1]; simp; omega)
    obtain ⟨A3, hA3⟩ : ∃ A : List UInt8, A = A2 ++ I := ⟨_, rfl⟩
    have hcat3 : ∀ wx : World, (Op.stringOp .add (ba A2) (ba I)).run Try.prog wx = .ok (.string (ba A3)) wx := cat_bb (P := Try.prog) _ _ A3 hA3 (by rw [hA2]; rw [hA1]; simp; omega)
    obtain ⟨A4, hA4⟩ : ∃ A : List UInt8, A = A3 ++ [44, 76, 83, 76, 32, 35] := ⟨_, rfl⟩
    have hcat4 : ∀ wx : World, (Op.stringOp .add (ba A3) { data := #[44, 76, 83, 76, 32, 35] }).run Try.prog wx = .ok (.string (ba A4)) wx := cat_bb (P := Try.prog) _ _ A4 hA4 (by rw [hA3]; rw [hA2]; rw [hA1]; simp; omega)
    obtain ⟨A5, hA5⟩ : ∃ A : List UInt8, A = A4 ++ (intL (16 * kind)) := ⟨_, rfl⟩
    have hcat5 : ∀ wx : World, (Op.stringOp .add (ba A4) (ba (intL (16 * kind)))).run Try.prog wx = .ok (.string (ba A5)) wx := cat_bb (P := Try.prog) _ _ A5 hA5 (by rw [hA4]; rw [hA3]; rw [hA2]; rw [hA1]; simp; omega)
    have HX := Lib.hid (show printA 6 d n m imm kind = A5 by rw [HP.out, hA5, hA4, hA3, hA2, hA1]; unfold textA; simp [hz, HIM.out])
    clear hA1 hA2 hA3 hA4 hA5
    go_wp2_with fail
    refine wp_region_held_drew (S := (fun w' => w'.cell? ⟨w.heap.size, 0, none⟩ = some (.int .i64 6) ∧ w'.cell? ⟨w.heap.size, 1, none⟩ = some (.int .i64 d) ∧ w'.cell? ⟨w.heap.size, 2, none⟩ = some (.int .i64 n) ∧ w'.cell? ⟨w.heap.size, 3, none⟩ = some (.int .i64 m) ∧ w'.cell? ⟨w.heap.size, 4, none⟩ = some (.int .i64 imm) ∧ w'.cell? ⟨w.heap.size, 5, none⟩ = some (.int .i64 kind))) (by kernel_rfl) (by (try dsimp only); exact ⟨n0, n1, n2, n3, n4, n5⟩) (fun hHeld => ?_)
    refine wpAnyH_take (i := 0) (oi := ⟨some 65, _, _, _, _, _⟩) (v := ?_) rfl (by kernel_rfl) (by kernel_rfl) (by kernel_rfl) (fun _ _ _ h => h) (Or.inl ⟨by rfl, ?_⟩) (by assumption) ?_
    rotate_left
    · (intro w hSw; (try dsimp only at hSw); go_simp; try with_reducible rfl)
    simp only [Act.put, List.setIfInBounds_toArray, List.set_cons_zero, List.set_cons_succ]
    refine wpAnyH_take (i := 1) (oi := ⟨some 66, _, _, _, _, _⟩) (v := ?_) rfl (by kernel_rfl) (by kernel_rfl) (by kernel_rfl) (fun _ _ _ h => h) (Or.inl ⟨by rfl, ?_⟩) (by assumption) ?_
    rotate_left
    · (intro w hSw; (try dsimp only at hSw); go_simp; try with_reducible rfl)
    simp only [Act.put, List.setIfInBounds_toArray, List.set_cons_zero, List.set_cons_succ]
    refine wpAnyH_take (i := 5) (oi := ⟨some 70, _, _, _, _, _⟩) (v := ?_) rfl (by kernel_rfl) (by kernel_rfl) (by kernel_rfl) (fun _ _ _ h => h) (Or.inl ⟨by rfl, ?_⟩) (by assumption) ?_
    rotate_left
    · (intro w hSw; (try dsimp only at hSw); go_simp; try with_reducible rfl)
    simp only [Act.put, List.setIfInBounds_toArray, List.set_cons_zero, List.set_cons_succ]
    refine wpAnyH_take (i := 8) (oi := ⟨some 73, _, _, _, _, _⟩) (v := ?_) rfl (by kernel_rfl) (by kernel_rfl) (by kernel_rfl) (fun _ _ _ h => h) (Or.inl ⟨by rfl, ?_⟩) (by assumption) ?_
    rotate_left
    · (intro w hSw; (try dsimp only at hSw); go_simp; try with_reducible rfl)
    simp only [Act.put, List.setIfInBounds_toArray, List.set_cons_zero, List.set_cons_succ]
    refine wpAnyH_take (i := 9) (oi := ⟨some 74, _, _, _, _, _⟩) (v := ?_) rfl (by kernel_rfl) (by kernel_rfl) (by kernel_rfl) (fun _ _ _ h => h) (Or.inl ⟨by rfl, ?_⟩) (by assumption) ?_
    rotate_left
    · (intro w hSw; (try dsimp only at hSw); go_simp; try with_reducible rfl)
    simp only [Act.put, List.setIfInBounds_toArray, List.set_cons_zero, List.set_cons_succ]
    refine wpAnyH_take (i := 10) (oi := ⟨some 75, _, _, _, _, _⟩) (v := ?_) rfl (by kernel_rfl) (by kernel_rfl) (by kernel_rfl) (fun _ _ _ h => h) (Or.inl ⟨by rfl, ?_⟩) (by assumption) ?_
    rotate_left
    · (intro w hSw; (try dsimp only at hSw); go_simp; try with_reducible rfl)
    simp only [Act.put, List.setIfInBounds_toArray, List.set_cons_zero, List.set_cons_succ]
    refine wpAnyH_ready (rs := [2]) (by kernel_rfl) (by simp) ?_
    refine AllReadyH.cons (o := ⟨some 67, _, _, _, _, _⟩) rfl (fun K hK => ?_) AllReadyH.nil
    go_simp
    go_at_call 16; refine (HRd.out _).mono ?_; rintro e w' ⟨rfl, md, rfl⟩
    refine hK.out _ _ (by (try dsimp only); exact ⟨n0, n1, n2, n3, n4, n5⟩) ?_
    clear hK K hHeld
    intro hHeld
    try simp only [Act.put, List.setIfInBounds_toArray, List.set_cons_zero, List.set_cons_succ]
    refine wpAnyH_take (i := 3) (oi := ⟨some 68, _, _, _, _, _⟩) (v := ?_) rfl (by kernel_rfl) (by kernel_rfl) (by kernel_rfl) (fun _ _ _ h => h) (Or.inl ⟨by rfl, ?_⟩) (by assumption) ?_
    rotate_left
    · (intro w hSw; (try dsimp only at hSw); go_simp; try with_reducible rfl)
    simp only [Act.put, List.setIfInBounds_toArray, List.set_cons_zero, List.set_cons_succ]
    refine wpAnyH_take (i := 4) (oi := ⟨some 69, _, _, _, _, _⟩) (v := ?_) rfl (by kernel_rfl) (by kernel_rfl) (by kernel_rfl) (fun _ _ _ h => h) (Or.inl ⟨by rfl, ?_⟩) (by assumption) ?_
    rotate_left
    · (intro w hSw; (try dsimp only at hSw); go_simp; try with_reducible rfl)
    simp only [Act.put, List.setIfInBounds_toArray, List.set_cons_zero, List.set_cons_succ]
    refine wpAnyH_take (i := 6) (oi := ⟨some 71, _, _, _, _, _⟩) (v := ?_) rfl (by kernel_rfl) (by kernel_rfl) (by kernel_rfl) (fun _ _ _ h => h) (Or.inl ⟨by rfl, ?_⟩) (by assumption) ?_
    rotate_left
    · (intro w hSw; (try dsimp only at hSw); go_simp; try with_reducible rfl)
    simp only [Act.put, List.setIfInBounds_toArray, List.set_cons_zero, List.set_cons_succ]
    refine wpAnyH_take (i := 7) (oi := ⟨some 72, _, _, _, _, _⟩) (v := ?_) rfl (by kernel_rfl) (by kernel_rfl) (by kernel_rfl) (fun _ _ _ h => h) (Or.inl ⟨by rfl, ?_⟩) (by assumption) ?_
    rotate_left
    · (intro w hSw; (try dsimp only at hSw); go_simp; try with_reducible rfl)
    simp only [Act.put, List.setIfInBounds_toArray, List.set_cons_zero, List.set_cons_succ]
    refine wpAnyH_ready (rs := [11]) (by kernel_rfl) (by simp) ?_
    refine AllReadyH.cons (o := ⟨some 76, _, _, _, _, _⟩) rfl (fun K hK => ?_) AllReadyH.nil
    go_simp
    go_at_call 23; refine (HK.out _).mono ?_; rintro e w' ⟨rfl, mk, rfl⟩
    refine hK.out _ _ (by (try dsimp only); exact ⟨n0, n1, n2, n3, n4, n5⟩) ?_
    clear hK K hHeld
    intro hHeld
    try simp only [Act.put, List.setIfInBounds_toArray, List.set_cons_zero, List.set_cons_succ]
    refine wpAnyH_take (i := 12) (oi := ⟨some 77, _, _, _, _, _⟩) (v := ?_) rfl (by kernel_rfl) (by kernel_rfl) (by kernel_rfl) (fun _ _ _ h => h) (Or.inl ⟨by rfl, ?_⟩) (by assumption) ?_
    rotate_left
    · (intro w hSw; (try dsimp only at hSw); go_simp; try with_reducible rfl)
    simp only [Act.put, List.setIfInBounds_toArray, List.set_cons_zero, List.set_cons_succ]
    refine wpAnyH_take (i := 13) (oi := ⟨some 2, _, _, _, _, _⟩) (v := ?_) rfl (by kernel_rfl) (by kernel_rfl) (by kernel_rfl) (fun _ _ _ h => h) (Or.inl ⟨by rfl, ?_⟩) (by assumption) ?_
    rotate_left
    · (intro w hSw; (try dsimp only at hSw); go_simp; try with_reducible rfl)
    simp only [Act.put, List.setIfInBounds_toArray, List.set_cons_zero, List.set_cons_succ]
    refine wpAnyH_done (by kernel_rfl) ?_ _
    go_wp2_with fail
    go_ret
    exact ⟨by rw [HX.out]; rfl, by repeat (first | exact HB7.out | refine below_drewN ?_ _ | refine Below.drew ?_ | refine below_alloc ?_ _)⟩
set_option maxRecDepth 100000 in
set_option maxHeartbeats 6400000 in
theorem rpr_7 (d n m imm kind : Int) (w : World) (hr : rightP 7 d n m imm kind) :
    Calls Try.prog 10 #[instrW 7 d n m imm kind] w fun e w' => e = .returned (.string (ba (printA 7 d n m imm kind))) ∧ Below w.heap.size w w' := by
  have HB := Lib.hid (below_alloc (Below.refl w.heap.size w) (.cells #[.int .i64 7, .int .i64 d, .int .i64 n, .int .i64 m, .int .i64 imm, .int .i64 kind] 23))
  have HN := Lib.hid (own_instr w 7 d n m imm kind)
  have HC := Lib.hid (right3_any 7 d n m imm kind (w.alloc (.cells #[.int .i64 7, .int .i64 d, .int .i64 n, .int .i64 m, .int .i64 imm, .int .i64 kind] 23)))
  rw [right_yes hr] at HC
  have HP := Lib.hid (show printA 7 d n m imm kind = textA 7 d n m imm kind from if_pos hr)
  obtain ⟨⟨hop, hd, hn, hm⟩, hB, hCC, hDD⟩ := hr
  have hi : I64 imm := by unfold rightB at hB; unfold rightC at hCC; constructor <;> omega
  have hneg : ¬ imm < 0 := by unfold rightB at hB; unfold rightC at hCC; omega
  have HRC := Lib.hid hCC
  have HRDD := Lib.hid hDD
  clear hB hCC hDD
  have HII := Lib.hid (fun w1 => rint_any imm w1 hi)
  have HRd := Lib.hid (fun w1 => rreg_any d w1 (by omega))
  have HRn := Lib.hid (fun w1 => rreg_any n w1 (by omega))
  have HRm := Lib.hid (fun w1 => rreg_any m w1 (by omega))
  have bI := intL_len imm hi
  have bD := regL_len d (by constructor <;> omega)
  have bN := regL_len n (by constructor <;> omega)
  have bM := regL_len m (by constructor <;> omega)
  obtain ⟨I, hI⟩ : ∃ I : List UInt8, I = [35] ++ intL imm := ⟨_, rfl⟩
  have hcatI : ∀ wx : World, (Op.stringOp .add { data := #[35] } (ba (intL imm))).run Try.prog wx = .ok (.string (ba I)) wx := cat_bb (P := Try.prog) [35] _ I hI (by simp; omega)
  obtain ⟨TP, hTP⟩ : ∃ I : List UInt8, I = [46, 43] ++ intL imm := ⟨_, rfl⟩
  have hcatP : ∀ wx : World, (Op.stringOp .add { data := #[46, 43] } (ba (intL imm))).run Try.prog wx = .ok (.string (ba TP)) wx := cat_bb (P := Try.prog) [46, 43] _ TP hTP (by simp; omega)
  obtain ⟨TN, hTN⟩ : ∃ I : List UInt8, I = [46] ++ intL imm := ⟨_, rfl⟩
  have hcatN : ∀ wx : World, (Op.stringOp .add { data := #[46] } (ba (intL imm))).run Try.prog wx = .ok (.string (ba TN)) wx := cat_bb (P := Try.prog) [46] _ TN hTN (by simp; omega)
  have bII : I.length ≤ 66 := by rw [hI]; simp; omega
  have bTP : TP.length ≤ 67 := by rw [hTP]; simp; omega
  have bTN : TN.length ≤ 67 := by rw [hTN]; simp; omega
  have HIM := Lib.hid (show immL imm = I from hI.symm)
  have HTP := Lib.hid (fun (h : ¬ imm < 0) => show targetL imm = TP by unfold targetL; rw [if_neg h, hTP])
  have HTN := Lib.hid (fun (h : imm < 0) => show targetL imm = TN by unfold targetL; rw [if_pos h, hTN])
  clear hI hTP hTN
  go_enter Try.func10, Try.ntmps10
  go_wp2_with fail
  refine (HC.out).mono ?_
  rintro e w2 ⟨rfl, hb⟩
  have HB2 := Lib.hid (below_trans HB.out hb)
  have hlt := (HN.out.below hb).lt
  have HN2 := Lib.hid (HN.out.below hb)
  obtain ⟨n0, n1, n2, n3, n4, n5⟩ := blk_instr HN2.out
  clear hb HN HB HC
  go_wp2_with fail
  refine (HII.out _).mono ?_
  rintro e w' ⟨rfl, m1, rfl⟩
  go_wp2_with fail
  refine (HII.out _).mono ?_
  rintro e w' ⟨rfl, m2, rfl⟩
  clear HTP HTN
  go_wp2_with fail
  refine (rname_7 _).mono ?_
  rintro e w7 ⟨rfl, hb⟩
  have HB7 := Lib.hid (below_trans (below_drewN HB2.out _) hb)
  have HN7 := Lib.hid ((HN2.out.dn _).below hb)
  have hlt7 := HN7.out.lt
  clear hb n0 n1 n2 n3 n4 n5 hlt HB2 HN2
  obtain ⟨n0, n1, n2, n3, n4, n5⟩ := blk_instr HN7.out
  obtain ⟨A1, hA1⟩ : ∃ A : List UInt8, A = [65, 68, 68, 32] ++ (regL d) := ⟨_, rfl⟩
  have hcat1 : ∀ wx : World, (Op.stringOp .add ({ data := #[65, 68, 68] } ++ { data := #[32] } : ByteArray) (ba (regL d))).run Try.prog wx = .ok (.string (ba A1)) wx := by
    have hq : ({ data := #[65, 68, 68] } ++ { data := #[32] } : ByteArray) = ba [65, 68, 68, 32] := by kernel_rfl
    rw [hq]
    exact cat_bb (P := Try.prog) _ _ A1 hA1 (by simp; omega)
  obtain ⟨A2, hA2⟩ : ∃ A : List UInt8, A = A1 ++ [44] := ⟨_, rfl⟩
  have hcat2 : ∀ wx : World, (Op.stringOp .add (ba A1) { data := #[44] }).run Try.prog wx = .ok (.string (ba A2)) wx := cat_bb (P := Try.prog) _ _ A2 hA2 (by rw [hA1]; simp; omega)
  obtain ⟨A3, hA3⟩ : ∃ A : List UInt8, A = A2 ++ (regL n) := ⟨_, rfl⟩
  have hcat3 : ∀ wx : World, (Op.stringOp .add (ba A2) (ba (regL n))).run Try.prog wx = .ok (.string (ba A3)) wx := cat_bb (P := Try.prog) _ _ A3 hA3 (by rw [hA2]; rw [hA1]; simp; omega)
  obtain ⟨A4, hA4⟩ : ∃ A : List UInt8, A = A3 ++ [44] := ⟨_, rfl⟩
  have hcat4 : ∀ wx : World, (Op.stringOp .add (ba A3) { data := #[44] }).run Try.prog wx = .ok (.string (ba A4)) wx := cat_bb (P := Try.prog) _ _ A4 hA4 (by rw [hA3]; rw [hA2]; rw [hA1]; simp; omega)
  obtain ⟨A5, hA5⟩ : ∃ A : List UInt8, A = A4 ++ I := ⟨_, rfl⟩
  have hcat5 : ∀ wx : World, (Op.stringOp .add (ba A4) (ba I)).run Try.prog wx = .ok (.string (ba A5)) wx := cat_bb (P := Try.prog) _ _ A5 hA5 (by rw [hA4]; rw [hA3]; rw [hA2]; rw [hA1]; simp; omega)
  have HX := Lib.hid (show printA 7 d n m imm kind = A5 by rw [HP.out, hA5, hA4, hA3, hA2, hA1]; unfold textA; simp [HIM.out])
  clear hA1 hA2 hA3 hA4 hA5
  go_wp2_with fail
  refine wp_region_held_drew (S := (fun w' => w'.cell? ⟨w.heap.size, 0, none⟩ = some (.int .i64 7) ∧ w'.cell? ⟨w.heap.size, 1, none⟩ = some (.int .i64 d) ∧ w'.cell? ⟨w.heap.size, 2, none⟩ = some (.int .i64 n) ∧ w'.cell? ⟨w.heap.size, 3, none⟩ = some (.int .i64 m) ∧ w'.cell? ⟨w.heap.size, 4, none⟩ = some (.int .i64 imm) ∧ w'.cell? ⟨w.heap.size, 5, none⟩ = some (.int .i64 kind))) (by kernel_rfl) (by (try dsimp only); exact ⟨n0, n1, n2, n3, n4, n5⟩) (fun hHeld => ?_)
  refine wpAnyH_take (i := 0) (oi := ⟨some 87, _, _, _, _, _⟩) (v := ?_) rfl (by kernel_rfl) (by kernel_rfl) (by kernel_rfl) (fun _ _ _ h => h) (Or.inl ⟨by rfl, ?_⟩) (by assumption) ?_
  rotate_left
  · (intro w hSw; (try dsimp only at hSw); go_simp; try with_reducible rfl)
  simp only [Act.put, List.setIfInBounds_toArray, List.set_cons_zero, List.set_cons_succ]
  refine wpAnyH_take (i := 1) (oi := ⟨some 88, _, _, _, _, _⟩) (v := ?_) rfl (by kernel_rfl) (by kernel_rfl) (by kernel_rfl) (fun _ _ _ h => h) (Or.inl ⟨by rfl, ?_⟩) (by assumption) ?_
  rotate_left
  · (intro w hSw; (try dsimp only at hSw); go_simp; try with_reducible rfl)
  simp only [Act.put, List.setIfInBounds_toArray, List.set_cons_zero, List.set_cons_succ]
  refine wpAnyH_take (i := 2) (oi := ⟨some 89, _, _, _, _, _⟩) (v := ?_) rfl (by kernel_rfl) (by kernel_rfl) (by kernel_rfl) (fun _ _ _ h => h) (Or.inl ⟨by rfl, ?_⟩) (by assumption) ?_
  rotate_left
  · (intro w hSw; (try dsimp only at hSw); go_simp; try with_reducible rfl)
  simp only [Act.put, List.setIfInBounds_toArray, List.set_cons_zero, List.set_cons_succ]
  refine wpAnyH_take (i := 3) (oi := ⟨some 90, _, _, _, _, _⟩) (v := ?_) rfl (by kernel_rfl) (by kernel_rfl) (by kernel_rfl) (fun _ _ _ h => h) (Or.inl ⟨by rfl, ?_⟩) (by assumption) ?_
  rotate_left
  · (intro w hSw; (try dsimp only at hSw); go_simp; try with_reducible rfl)
  simp only [Act.put, List.setIfInBounds_toArray, List.set_cons_zero, List.set_cons_succ]
  refine wpAnyH_take (i := 7) (oi := ⟨some 94, _, _, _, _, _⟩) (v := ?_) rfl (by kernel_rfl) (by kernel_rfl) (by kernel_rfl) (fun _ _ _ h => h) (Or.inl ⟨by rfl, ?_⟩) (by assumption) ?_
  rotate_left
  · (intro w hSw; (try dsimp only at hSw); go_simp; try with_reducible rfl)
  simp only [Act.put, List.setIfInBounds_toArray, List.set_cons_zero, List.set_cons_succ]
  refine wpAnyH_take (i := 8) (oi := ⟨some 95, _, _, _, _, _⟩) (v := ?_) rfl (by kernel_rfl) (by kernel_rfl) (by kernel_rfl) (fun _ _ _ h => h) (Or.inl ⟨by rfl, ?_⟩) (by assumption) ?_
  rotate_left
  · (intro w hSw; (try dsimp only at hSw); go_simp; try with_reducible rfl)
  simp only [Act.put, List.setIfInBounds_toArray, List.set_cons_zero, List.set_cons_succ]
  refine wpAnyH_take (i := 12) (oi := ⟨some 99, _, _, _, _, _⟩) (v := ?_) rfl (by kernel_rfl) (by kernel_rfl) (by kernel_rfl) (fun _ _ _ h => h) (Or.inl ⟨by rfl, ?_⟩) (by assumption) ?_
  rotate_left
  · (intro w hSw; (try dsimp only at hSw); go_simp; try with_reducible rfl)
  simp only [Act.put, List.setIfInBounds_toArray, List.set_cons_zero, List.set_cons_succ]
  refine wpAnyH_ready (rs := [4]) (by kernel_rfl) (by simp) ?_
  refine AllReadyH.cons (o := ⟨some 91, _, _, _, _, _⟩) rfl (fun K hK => ?_) AllReadyH.nil
  go_simp
  go_at_call 16; refine (HRd.out _).mono ?_; rintro e w' ⟨rfl, md, rfl⟩
  refine hK.out _ _ (by (try dsimp only); exact ⟨n0, n1, n2, n3, n4, n5⟩) ?_
  clear hK K hHeld
  intro hHeld
  try simp only [Act.put, List.setIfInBounds_toArray, List.set_cons_zero, List.set_cons_succ]
  refine wpAnyH_take (i := 5) (oi := ⟨some 92, _, _, _, _, _⟩) (v := ?_) rfl (by kernel_rfl) (by kernel_rfl) (by kernel_rfl) (fun _ _ _ h => h) (Or.inl ⟨by rfl, ?_⟩) (by assumption) ?_
  rotate_left
  · (intro w hSw; (try dsimp only at hSw); go_simp; try with_reducible rfl)
  simp only [Act.put, List.setIfInBounds_toArray, List.set_cons_zero, List.set_cons_succ]
  refine wpAnyH_take (i := 6) (oi := ⟨some 93, _, _, _, _, _⟩) (v := ?_) rfl (by kernel_rfl) (by kernel_rfl) (by kernel_rfl) (fun _ _ _ h => h) (Or.inl ⟨by rfl, ?_⟩) (by assumption) ?_
  rotate_left
  · (intro w hSw; (try dsimp only at hSw); go_simp; try with_reducible rfl)
  simp only [Act.put, List.setIfInBounds_toArray, List.set_cons_zero, List.set_cons_succ]
  refine wpAnyH_ready (rs := [9]) (by kernel_rfl) (by simp) ?_
  refine AllReadyH.cons (o := ⟨some 96, _, _, _, _, _⟩) rfl (fun K hK => ?_) AllReadyH.nil
  go_simp
  go_at_call 16; refine (HRn.out _).mono ?_; rintro e w' ⟨rfl, mn, rfl⟩
  refine hK.out _ _ (by (try dsimp only); exact ⟨n0, n1, n2, n3, n4, n5⟩) ?_
  clear hK K hHeld
  intro hHeld
  try simp only [Act.put, List.setIfInBounds_toArray, List.set_cons_zero, List.set_cons_succ]
  refine wpAnyH_take (i := 10) (oi := ⟨some 97, _, _, _, _, _⟩) (v := ?_) rfl (by kernel_rfl) (by kernel_rfl) (by kernel_rfl) (fun _ _ _ h => h) (Or.inl ⟨by rfl, ?_⟩) (by assumption) ?_
  rotate_left
  · (intro w hSw; (try dsimp only at hSw); go_simp; try with_reducible rfl)
  simp only [Act.put, List.setIfInBounds_toArray, List.set_cons_zero, List.set_cons_succ]
  refine wpAnyH_take (i := 11) (oi := ⟨some 98, _, _, _, _, _⟩) (v := ?_) rfl (by kernel_rfl) (by kernel_rfl) (by kernel_rfl) (fun _ _ _ h => h) (Or.inl ⟨by rfl, ?_⟩) (by assumption) ?_
  rotate_left
  · (intro w hSw; (try dsimp only at hSw); go_simp; try with_reducible rfl)
  simp only [Act.put, List.setIfInBounds_toArray, List.set_cons_zero, List.set_cons_succ]
  refine wpAnyH_take (i := 13) (oi := ⟨some 100, _, _, _, _, _⟩) (v := ?_) rfl (by kernel_rfl) (by kernel_rfl) (by kernel_rfl) (fun _ _ _ h => h) (Or.inl ⟨by rfl, ?_⟩) (by assumption) ?_
  rotate_left
  · (intro w hSw; (try dsimp only at hSw); go_simp; try with_reducible rfl)
  simp only [Act.put, List.setIfInBounds_toArray, List.set_cons_zero, List.set_cons_succ]
  refine wpAnyH_take (i := 14) (oi := ⟨some 2, _, _, _, _, _⟩) (v := ?_) rfl (by kernel_rfl) (by kernel_rfl) (by kernel_rfl) (fun _ _ _ h => h) (Or.inl ⟨by rfl, ?_⟩) (by assumption) ?_
  rotate_left
  · (intro w hSw; (try dsimp only at hSw); go_simp; try with_reducible rfl)
  simp only [Act.put, List.setIfInBounds_toArray, List.set_cons_zero, List.set_cons_succ]
  refine wpAnyH_done (by kernel_rfl) ?_ _
  go_wp2_with fail
  go_ret
  exact ⟨by rw [HX.out]; rfl, by repeat (first | exact HB7.out | refine below_drewN ?_ _ | refine Below.drew ?_ | refine below_alloc ?_ _)⟩
set_option maxRecDepth 100000 in
set_option maxHeartbeats 6400000 in
theorem rpr_8 (d n m imm kind : Int) (w : World) (hr : rightP 8 d n m imm kind) :
    Calls Try.prog 10 #[instrW 8 d n m imm kind] w fun e w' => e = .returned (.string (ba (printA 8 d n m imm kind))) ∧ Below w.heap.size w w' := by
  have HB := Lib.hid (below_alloc (Below.refl w.heap.size w) (.cells #[.int .i64 8, .int .i64 d, .int .i64 n, .int .i64 m, .int .i64 imm, .int .i64 kind] 23))
  have HN := Lib.hid (own_instr w 8 d n m imm kind)
  have HC := Lib.hid (right3_any 8 d n m imm kind (w.alloc (.cells #[.int .i64 8, .int .i64 d, .int .i64 n, .int .i64 m, .int .i64 imm, .int .i64 kind] 23)))
  rw [right_yes hr] at HC
  have HP := Lib.hid (show printA 8 d n m imm kind = textA 8 d n m imm kind from if_pos hr)
  obtain ⟨⟨hop, hd, hn, hm⟩, hB, hCC, hDD⟩ := hr
  have hi : I64 imm := by unfold rightB at hB; unfold rightC at hCC; constructor <;> omega
  have hneg : ¬ imm < 0 := by unfold rightB at hB; unfold rightC at hCC; omega
  have HRC := Lib.hid hCC
  have HRDD := Lib.hid hDD
  clear hB hCC hDD
  have HII := Lib.hid (fun w1 => rint_any imm w1 hi)
  have HRd := Lib.hid (fun w1 => rreg_any d w1 (by omega))
  have HRn := Lib.hid (fun w1 => rreg_any n w1 (by omega))
  have HRm := Lib.hid (fun w1 => rreg_any m w1 (by omega))
  have bI := intL_len imm hi
  have bD := regL_len d (by constructor <;> omega)
  have bN := regL_len n (by constructor <;> omega)
  have bM := regL_len m (by constructor <;> omega)
  obtain ⟨I, hI⟩ : ∃ I : List UInt8, I = [35] ++ intL imm := ⟨_, rfl⟩
  have hcatI : ∀ wx : World, (Op.stringOp .add { data := #[35] } (ba (intL imm))).run Try.prog wx = .ok (.string (ba I)) wx := cat_bb (P := Try.prog) [35] _ I hI (by simp; omega)
  obtain ⟨TP, hTP⟩ : ∃ I : List UInt8, I = [46, 43] ++ intL imm := ⟨_, rfl⟩
  have hcatP : ∀ wx : World, (Op.stringOp .add { data := #[46, 43] } (ba (intL imm))).run Try.prog wx = .ok (.string (ba TP)) wx := cat_bb (P := Try.prog) [46, 43] _ TP hTP (by simp; omega)
  obtain ⟨TN, hTN⟩ : ∃ I : List UInt8, I = [46] ++ intL imm := ⟨_, rfl⟩
  have hcatN : ∀ wx : World, (Op.stringOp .add { data := #[46] } (ba (intL imm))).run Try.prog wx = .ok (.string (ba TN)) wx := cat_bb (P := Try.prog) [46] _ TN hTN (by simp; omega)
  have bII : I.length ≤ 66 := by rw [hI]; simp; omega
  have bTP : TP.length ≤ 67 := by rw [hTP]; simp; omega
  have bTN : TN.length ≤ 67 := by rw [hTN]; simp; omega
  have HIM := Lib.hid (show immL imm = I from hI.symm)
  have HTP := Lib.hid (fun (h : ¬ imm < 0) => show targetL imm = TP by unfold targetL; rw [if_neg h, hTP])
  have HTN := Lib.hid (fun (h : imm < 0) => show targetL imm = TN by unfold targetL; rw [if_pos h, hTN])
  clear hI hTP hTN
  go_enter Try.func10, Try.ntmps10
  go_wp2_with fail
  refine (HC.out).mono ?_
  rintro e w2 ⟨rfl, hb⟩
  have HB2 := Lib.hid (below_trans HB.out hb)
  have hlt := (HN.out.below hb).lt
  have HN2 := Lib.hid (HN.out.below hb)
  obtain ⟨n0, n1, n2, n3, n4, n5⟩ := blk_instr HN2.out
  clear hb HN HB HC
  go_wp2_with fail
  refine (HII.out _).mono ?_
  rintro e w' ⟨rfl, m1, rfl⟩
  go_wp2_with fail
  refine (HII.out _).mono ?_
  rintro e w' ⟨rfl, m2, rfl⟩
  clear HTP HTN
  go_wp2_with fail
  refine (rname_8 _).mono ?_
  rintro e w7 ⟨rfl, hb⟩
  have HB7 := Lib.hid (below_trans (below_drewN HB2.out _) hb)
  have HN7 := Lib.hid ((HN2.out.dn _).below hb)
  have hlt7 := HN7.out.lt
  clear hb n0 n1 n2 n3 n4 n5 hlt HB2 HN2
  obtain ⟨n0, n1, n2, n3, n4, n5⟩ := blk_instr HN7.out
  obtain ⟨A1, hA1⟩ : ∃ A : List UInt8, A = [65, 68, 68, 32] ++ (regL d) := ⟨_, rfl⟩
  have hcat1 : ∀ wx : World, (Op.stringOp .add ({ data := #[65, 68, 68] } ++ { data := #[32] } : ByteArray) (ba (regL d))).run Try.prog wx = .ok (.string (ba A1)) wx := by
    have hq : ({ data := #[65, 68, 68] } ++ { data := #[32] } : ByteArray) = ba [65, 68, 68, 32] := by kernel_rfl
    rw [hq]
    exact cat_bb (P := Try.prog) _ _ A1 hA1 (by simp; omega)
  obtain ⟨A2, hA2⟩ : ∃ A : List UInt8, A = A1 ++ [44] := ⟨_, rfl⟩
  have hcat2 : ∀ wx : World, (Op.stringOp .add (ba A1) { data := #[44] }).run Try.prog wx = .ok (.string (ba A2)) wx := cat_bb (P := Try.prog) _ _ A2 hA2 (by rw [hA1]; simp; omega)
  obtain ⟨A3, hA3⟩ : ∃ A : List UInt8, A = A2 ++ (regL n) := ⟨_, rfl⟩
  have hcat3 : ∀ wx : World, (Op.stringOp .add (ba A2) (ba (regL n))).run Try.prog wx = .ok (.string (ba A3)) wx := cat_bb (P := Try.prog) _ _ A3 hA3 (by rw [hA2]; rw [hA1]; simp; omega)
  obtain ⟨A4, hA4⟩ : ∃ A : List UInt8, A = A3 ++ [44] := ⟨_, rfl⟩
  have hcat4 : ∀ wx : World, (Op.stringOp .add (ba A3) { data := #[44] }).run Try.prog wx = .ok (.string (ba A4)) wx := cat_bb (P := Try.prog) _ _ A4 hA4 (by rw [hA3]; rw [hA2]; rw [hA1]; simp; omega)
  obtain ⟨A5, hA5⟩ : ∃ A : List UInt8, A = A4 ++ (regL m) := ⟨_, rfl⟩
  have hcat5 : ∀ wx : World, (Op.stringOp .add (ba A4) (ba (regL m))).run Try.prog wx = .ok (.string (ba A5)) wx := cat_bb (P := Try.prog) _ _ A5 hA5 (by rw [hA4]; rw [hA3]; rw [hA2]; rw [hA1]; simp; omega)
  have HX := Lib.hid (show printA 8 d n m imm kind = A5 by rw [HP.out, hA5, hA4, hA3, hA2, hA1]; unfold textA; simp [threeL, nameL])
  clear hA1 hA2 hA3 hA4 hA5
  go_wp2_with fail
  refine wp_region_held_drew (S := (fun w' => w'.cell? ⟨w.heap.size, 0, none⟩ = some (.int .i64 8) ∧ w'.cell? ⟨w.heap.size, 1, none⟩ = some (.int .i64 d) ∧ w'.cell? ⟨w.heap.size, 2, none⟩ = some (.int .i64 n) ∧ w'.cell? ⟨w.heap.size, 3, none⟩ = some (.int .i64 m) ∧ w'.cell? ⟨w.heap.size, 4, none⟩ = some (.int .i64 imm) ∧ w'.cell? ⟨w.heap.size, 5, none⟩ = some (.int .i64 kind))) (by kernel_rfl) (by (try dsimp only); exact ⟨n0, n1, n2, n3, n4, n5⟩) (fun hHeld => ?_)
  refine wpAnyH_take (i := 0) (oi := ⟨some 189, _, _, _, _, _⟩) (v := ?_) rfl (by kernel_rfl) (by kernel_rfl) (by kernel_rfl) (fun _ _ _ h => h) (Or.inl ⟨by rfl, ?_⟩) (by assumption) ?_
  rotate_left
  · (intro w hSw; (try dsimp only at hSw); go_simp; try with_reducible rfl)
  simp only [Act.put, List.setIfInBounds_toArray, List.set_cons_zero, List.set_cons_succ]
  refine wpAnyH_take (i := 1) (oi := ⟨some 190, _, _, _, _, _⟩) (v := ?_) rfl (by kernel_rfl) (by kernel_rfl) (by kernel_rfl) (fun _ _ _ h => h) (Or.inl ⟨by rfl, ?_⟩) (by assumption) ?_
  rotate_left
  · (intro w hSw; (try dsimp only at hSw); go_simp; try with_reducible rfl)
  simp only [Act.put, List.setIfInBounds_toArray, List.set_cons_zero, List.set_cons_succ]
  refine wpAnyH_take (i := 2) (oi := ⟨some 191, _, _, _, _, _⟩) (v := ?_) rfl (by kernel_rfl) (by kernel_rfl) (by kernel_rfl) (fun _ _ _ h => h) (Or.inl ⟨by rfl, ?_⟩) (by assumption) ?_
  rotate_left
  · (intro w hSw; (try dsimp only at hSw); go_simp; try with_reducible rfl)
  simp only [Act.put, List.setIfInBounds_toArray, List.set_cons_zero, List.set_cons_succ]
  refine wpAnyH_take (i := 3) (oi := ⟨some 192, _, _, _, _, _⟩) (v := ?_) rfl (by kernel_rfl) (by kernel_rfl) (by kernel_rfl) (fun _ _ _ h => h) (Or.inl ⟨by rfl, ?_⟩) (by assumption) ?_
  rotate_left
  · (intro w hSw; (try dsimp only at hSw); go_simp; try with_reducible rfl)
  simp only [Act.put, List.setIfInBounds_toArray, List.set_cons_zero, List.set_cons_succ]
  refine wpAnyH_take (i := 7) (oi := ⟨some 196, _, _, _, _, _⟩) (v := ?_) rfl (by kernel_rfl) (by kernel_rfl) (by kernel_rfl) (fun _ _ _ h => h) (Or.inl ⟨by rfl, ?_⟩) (by assumption) ?_
  rotate_left
  · (intro w hSw; (try dsimp only at hSw); go_simp; try with_reducible rfl)
  simp only [Act.put, List.setIfInBounds_toArray, List.set_cons_zero, List.set_cons_succ]
  refine wpAnyH_take (i := 8) (oi := ⟨some 197, _, _, _, _, _⟩) (v := ?_) rfl (by kernel_rfl) (by kernel_rfl) (by kernel_rfl) (fun _ _ _ h => h) (Or.inl ⟨by rfl, ?_⟩) (by assumption) ?_
  rotate_left
  · (intro w hSw; (try dsimp only at hSw); go_simp; try with_reducible rfl)
  simp only [Act.put, List.setIfInBounds_toArray, List.set_cons_zero, List.set_cons_succ]
  refine wpAnyH_take (i := 12) (oi := ⟨some 201, _, _, _, _, _⟩) (v := ?_) rfl (by kernel_rfl) (by kernel_rfl) (by kernel_rfl) (fun _ _ _ h => h) (Or.inl ⟨by rfl, ?_⟩) (by assumption) ?_
  rotate_left
  · (intro w hSw; (try dsimp only at hSw); go_simp; try with_reducible rfl)
  simp only [Act.put, List.setIfInBounds_toArray, List.set_cons_zero, List.set_cons_succ]
  refine wpAnyH_take (i := 13) (oi := ⟨some 202, _, _, _, _, _⟩) (v := ?_) rfl (by kernel_rfl) (by kernel_rfl) (by kernel_rfl) (fun _ _ _ h => h) (Or.inl ⟨by rfl, ?_⟩) (by assumption) ?_
  rotate_left
  · (intro w hSw; (try dsimp only at hSw); go_simp; try with_reducible rfl)
  simp only [Act.put, List.setIfInBounds_toArray, List.set_cons_zero, List.set_cons_succ]
  refine wpAnyH_ready (rs := [4]) (by kernel_rfl) (by simp) ?_
  refine AllReadyH.cons (o := ⟨some 193, _, _, _, _, _⟩) rfl (fun K hK => ?_) AllReadyH.nil
  go_simp
  go_at_call 16; refine (HRd.out _).mono ?_; rintro e w' ⟨rfl, md, rfl⟩
  refine hK.out _ _ (by (try dsimp only); exact ⟨n0, n1, n2, n3, n4, n5⟩) ?_
  clear hK K hHeld
  intro hHeld
  try simp only [Act.put, List.setIfInBounds_toArray, List.set_cons_zero, List.set_cons_succ]
  refine wpAnyH_take (i := 5) (oi := ⟨some 194, _, _, _, _, _⟩) (v := ?_) rfl (by kernel_rfl) (by kernel_rfl) (by kernel_rfl) (fun _ _ _ h => h) (Or.inl ⟨by rfl, ?_⟩) (by assumption) ?_
  rotate_left
  · (intro w hSw; (try dsimp only at hSw); go_simp; try with_reducible rfl)
  simp only [Act.put, List.setIfInBounds_toArray, List.set_cons_zero, List.set_cons_succ]
  refine wpAnyH_take (i := 6) (oi := ⟨some 195, _, _, _, _, _⟩) (v := ?_) rfl (by kernel_rfl) (by kernel_rfl) (by kernel_rfl) (fun _ _ _ h => h) (Or.inl ⟨by rfl, ?_⟩) (by assumption) ?_
  rotate_left
  · (intro w hSw; (try dsimp only at hSw); go_simp; try with_reducible rfl)
  simp only [Act.put, List.setIfInBounds_toArray, List.set_cons_zero, List.set_cons_succ]
  refine wpAnyH_ready (rs := [9]) (by kernel_rfl) (by simp) ?_
  refine AllReadyH.cons (o := ⟨some 198, _, _, _, _, _⟩) rfl (fun K hK => ?_) AllReadyH.nil
  go_simp
  go_at_call 16; refine (HRn.out _).mono ?_; rintro e w' ⟨rfl, mn, rfl⟩
  refine hK.out _ _ (by (try dsimp only); exact ⟨n0, n1, n2, n3, n4, n5⟩) ?_
  clear hK K hHeld
  intro hHeld
  try simp only [Act.put, List.setIfInBounds_toArray, List.set_cons_zero, List.set_cons_succ]
  refine wpAnyH_take (i := 10) (oi := ⟨some 199, _, _, _, _, _⟩) (v := ?_) rfl (by kernel_rfl) (by kernel_rfl) (by kernel_rfl) (fun _ _ _ h => h) (Or.inl ⟨by rfl, ?_⟩) (by assumption) ?_
  rotate_left
  · (intro w hSw; (try dsimp only at hSw); go_simp; try with_reducible rfl)
  simp only [Act.put, List.setIfInBounds_toArray, List.set_cons_zero, List.set_cons_succ]
  refine wpAnyH_take (i := 11) (oi := ⟨some 200, _, _, _, _, _⟩) (v := ?_) rfl (by kernel_rfl) (by kernel_rfl) (by kernel_rfl) (fun _ _ _ h => h) (Or.inl ⟨by rfl, ?_⟩) (by assumption) ?_
  rotate_left
  · (intro w hSw; (try dsimp only at hSw); go_simp; try with_reducible rfl)
  simp only [Act.put, List.setIfInBounds_toArray, List.set_cons_zero, List.set_cons_succ]
  refine wpAnyH_ready (rs := [14]) (by kernel_rfl) (by simp) ?_
  refine AllReadyH.cons (o := ⟨some 203, _, _, _, _, _⟩) rfl (fun K hK => ?_) AllReadyH.nil
  go_simp
  go_at_call 16; refine (HRm.out _).mono ?_; rintro e w' ⟨rfl, mm, rfl⟩
  refine hK.out _ _ (by (try dsimp only); exact ⟨n0, n1, n2, n3, n4, n5⟩) ?_
  clear hK K hHeld
  intro hHeld
  try simp only [Act.put, List.setIfInBounds_toArray, List.set_cons_zero, List.set_cons_succ]
  refine wpAnyH_take (i := 15) (oi := ⟨some 204, _, _, _, _, _⟩) (v := ?_) rfl (by kernel_rfl) (by kernel_rfl) (by kernel_rfl) (fun _ _ _ h => h) (Or.inl ⟨by rfl, ?_⟩) (by assumption) ?_
  rotate_left
  · (intro w hSw; (try dsimp only at hSw); go_simp; try with_reducible rfl)
  simp only [Act.put, List.setIfInBounds_toArray, List.set_cons_zero, List.set_cons_succ]
  refine wpAnyH_take (i := 16) (oi := ⟨some 2, _, _, _, _, _⟩) (v := ?_) rfl (by kernel_rfl) (by kernel_rfl) (by kernel_rfl) (fun _ _ _ h => h) (Or.inl ⟨by rfl, ?_⟩) (by assumption) ?_
  rotate_left
  · (intro w hSw; (try dsimp only at hSw); go_simp; try with_reducible rfl)
  simp only [Act.put, List.setIfInBounds_toArray, List.set_cons_zero, List.set_cons_succ]
  refine wpAnyH_done (by kernel_rfl) ?_ _
  go_wp2_with fail
  go_ret
  exact ⟨by rw [HX.out]; rfl, by repeat (first | exact HB7.out | refine below_drewN ?_ _ | refine Below.drew ?_ | refine below_alloc ?_ _)⟩
set_option maxRecDepth 100000 in
set_option maxHeartbeats 6400000 in
theorem rpr_9 (d n m imm kind : Int) (w : World) (hr : rightP 9 d n m imm kind) :
    Calls Try.prog 10 #[instrW 9 d n m imm kind] w fun e w' => e = .returned (.string (ba (printA 9 d n m imm kind))) ∧ Below w.heap.size w w' := by
  have HB := Lib.hid (below_alloc (Below.refl w.heap.size w) (.cells #[.int .i64 9, .int .i64 d, .int .i64 n, .int .i64 m, .int .i64 imm, .int .i64 kind] 23))
  have HN := Lib.hid (own_instr w 9 d n m imm kind)
  have HC := Lib.hid (right3_any 9 d n m imm kind (w.alloc (.cells #[.int .i64 9, .int .i64 d, .int .i64 n, .int .i64 m, .int .i64 imm, .int .i64 kind] 23)))
  rw [right_yes hr] at HC
  have HP := Lib.hid (show printA 9 d n m imm kind = textA 9 d n m imm kind from if_pos hr)
  obtain ⟨⟨hop, hd, hn, hm⟩, hB, hCC, hDD⟩ := hr
  have hi : I64 imm := by unfold rightB at hB; unfold rightC at hCC; constructor <;> omega
  have hneg : ¬ imm < 0 := by unfold rightB at hB; unfold rightC at hCC; omega
  have HRC := Lib.hid hCC
  have HRDD := Lib.hid hDD
  clear hB hCC hDD
  have HII := Lib.hid (fun w1 => rint_any imm w1 hi)
  have HRd := Lib.hid (fun w1 => rreg_any d w1 (by omega))
  have HRn := Lib.hid (fun w1 => rreg_any n w1 (by omega))
  have HRm := Lib.hid (fun w1 => rreg_any m w1 (by omega))
  have bI := intL_len imm hi
  have bD := regL_len d (by constructor <;> omega)
  have bN := regL_len n (by constructor <;> omega)
  have bM := regL_len m (by constructor <;> omega)
  obtain ⟨I, hI⟩ : ∃ I : List UInt8, I = [35] ++ intL imm := ⟨_, rfl⟩
  have hcatI : ∀ wx : World, (Op.stringOp .add { data := #[35] } (ba (intL imm))).run Try.prog wx = .ok (.string (ba I)) wx := cat_bb (P := Try.prog) [35] _ I hI (by simp; omega)
  obtain ⟨TP, hTP⟩ : ∃ I : List UInt8, I = [46, 43] ++ intL imm := ⟨_, rfl⟩
  have hcatP : ∀ wx : World, (Op.stringOp .add { data := #[46, 43] } (ba (intL imm))).run Try.prog wx = .ok (.string (ba TP)) wx := cat_bb (P := Try.prog) [46, 43] _ TP hTP (by simp; omega)
  obtain ⟨TN, hTN⟩ : ∃ I : List UInt8, I = [46] ++ intL imm := ⟨_, rfl⟩
  have hcatN : ∀ wx : World, (Op.stringOp .add { data := #[46] } (ba (intL imm))).run Try.prog wx = .ok (.string (ba TN)) wx := cat_bb (P := Try.prog) [46] _ TN hTN (by simp; omega)
  have bII : I.length ≤ 66 := by rw [hI]; simp; omega
  have bTP : TP.length ≤ 67 := by rw [hTP]; simp; omega
  have bTN : TN.length ≤ 67 := by rw [hTN]; simp; omega
  have HIM := Lib.hid (show immL imm = I from hI.symm)
  have HTP := Lib.hid (fun (h : ¬ imm < 0) => show targetL imm = TP by unfold targetL; rw [if_neg h, hTP])
  have HTN := Lib.hid (fun (h : imm < 0) => show targetL imm = TN by unfold targetL; rw [if_pos h, hTN])
  clear hI hTP hTN
  go_enter Try.func10, Try.ntmps10
  go_wp2_with fail
  refine (HC.out).mono ?_
  rintro e w2 ⟨rfl, hb⟩
  have HB2 := Lib.hid (below_trans HB.out hb)
  have hlt := (HN.out.below hb).lt
  have HN2 := Lib.hid (HN.out.below hb)
  obtain ⟨n0, n1, n2, n3, n4, n5⟩ := blk_instr HN2.out
  clear hb HN HB HC
  go_wp2_with fail
  refine (HII.out _).mono ?_
  rintro e w' ⟨rfl, m1, rfl⟩
  go_wp2_with fail
  refine (HII.out _).mono ?_
  rintro e w' ⟨rfl, m2, rfl⟩
  clear HTP HTN
  go_wp2_with fail
  refine (rname_9 _).mono ?_
  rintro e w7 ⟨rfl, hb⟩
  have HB7 := Lib.hid (below_trans (below_drewN HB2.out _) hb)
  have HN7 := Lib.hid ((HN2.out.dn _).below hb)
  have hlt7 := HN7.out.lt
  clear hb n0 n1 n2 n3 n4 n5 hlt HB2 HN2
  obtain ⟨n0, n1, n2, n3, n4, n5⟩ := blk_instr HN7.out
  obtain ⟨A1, hA1⟩ : ∃ A : List UInt8, A = [83, 85, 66, 32] ++ (regL d) := ⟨_, rfl⟩
  have hcat1 : ∀ wx : World, (Op.stringOp .add ({ data := #[83, 85, 66] } ++ { data := #[32] } : ByteArray) (ba (regL d))).run Try.prog wx = .ok (.string (ba A1)) wx := by
    have hq : ({ data := #[83, 85, 66] } ++ { data := #[32] } : ByteArray) = ba [83, 85, 66, 32] := by kernel_rfl
    rw [hq]
    exact cat_bb (P := Try.prog) _ _ A1 hA1 (by simp; omega)
  obtain ⟨A2, hA2⟩ : ∃ A : List UInt8, A = A1 ++ [44] := ⟨_, rfl⟩
  have hcat2 : ∀ wx : World, (Op.stringOp .add (ba A1) { data := #[44] }).run Try.prog wx = .ok (.string (ba A2)) wx := cat_bb (P := Try.prog) _ _ A2 hA2 (by rw [hA1]; simp; omega)
  obtain ⟨A3, hA3⟩ : ∃ A : List UInt8, A = A2 ++ (regL n) := ⟨_, rfl⟩
  have hcat3 : ∀ wx : World, (Op.stringOp .add (ba A2) (ba (regL n))).run Try.prog wx = .ok (.string (ba A3)) wx := cat_bb (P := Try.prog) _ _ A3 hA3 (by rw [hA2]; rw [hA1]; simp; omega)
  obtain ⟨A4, hA4⟩ : ∃ A : List UInt8, A = A3 ++ [44] := ⟨_, rfl⟩
  have hcat4 : ∀ wx : World, (Op.stringOp .add (ba A3) { data := #[44] }).run Try.prog wx = .ok (.string (ba A4)) wx := cat_bb (P := Try.prog) _ _ A4 hA4 (by rw [hA3]; rw [hA2]; rw [hA1]; simp; omega)
  obtain ⟨A5, hA5⟩ : ∃ A : List UInt8, A = A4 ++ (regL m) := ⟨_, rfl⟩
  have hcat5 : ∀ wx : World, (Op.stringOp .add (ba A4) (ba (regL m))).run Try.prog wx = .ok (.string (ba A5)) wx := cat_bb (P := Try.prog) _ _ A5 hA5 (by rw [hA4]; rw [hA3]; rw [hA2]; rw [hA1]; simp; omega)
  have HX := Lib.hid (show printA 9 d n m imm kind = A5 by rw [HP.out, hA5, hA4, hA3, hA2, hA1]; unfold textA; simp [threeL, nameL])
  clear hA1 hA2 hA3 hA4 hA5
  go_wp2_with fail
  refine wp_region_held_drew (S := (fun w' => w'.cell? ⟨w.heap.size, 0, none⟩ = some (.int .i64 9) ∧ w'.cell? ⟨w.heap.size, 1, none⟩ = some (.int .i64 d) ∧ w'.cell? ⟨w.heap.size, 2, none⟩ = some (.int .i64 n) ∧ w'.cell? ⟨w.heap.size, 3, none⟩ = some (.int .i64 m) ∧ w'.cell? ⟨w.heap.size, 4, none⟩ = some (.int .i64 imm) ∧ w'.cell? ⟨w.heap.size, 5, none⟩ = some (.int .i64 kind))) (by kernel_rfl) (by (try dsimp only); exact ⟨n0, n1, n2, n3, n4, n5⟩) (fun hHeld => ?_)
  refine wpAnyH_take (i := 0) (oi := ⟨some 189, _, _, _, _, _⟩) (v := ?_) rfl (by kernel_rfl) (by kernel_rfl) (by kernel_rfl) (fun _ _ _ h => h) (Or.inl ⟨by rfl, ?_⟩) (by assumption) ?_
  rotate_left
  · (intro w hSw; (try dsimp only at hSw); go_simp; try with_reducible rfl)
  simp only [Act.put, List.setIfInBounds_toArray, List.set_cons_zero, List.set_cons_succ]
  refine wpAnyH_take (i := 1) (oi := ⟨some 190, _, _, _, _, _⟩) (v := ?_) rfl (by kernel_rfl) (by kernel_rfl) (by kernel_rfl) (fun _ _ _ h => h) (Or.inl ⟨by rfl, ?_⟩) (by assumption) ?_
  rotate_left
  · (intro w hSw; (try dsimp only at hSw); go_simp; try with_reducible rfl)
  simp only [Act.put, List.setIfInBounds_toArray, List.set_cons_zero, List.set_cons_succ]
  refine wpAnyH_take (i := 2) (oi := ⟨some 191, _, _, _, _, _⟩) (v := ?_) rfl (by kernel_rfl) (by kernel_rfl) (by kernel_rfl) (fun _ _ _ h => h) (Or.inl ⟨by rfl, ?_⟩) (by assumption) ?_
  rotate_left
  · (intro w hSw; (try dsimp only at hSw); go_simp; try with_reducible rfl)
  simp only [Act.put, List.setIfInBounds_toArray, List.set_cons_zero, List.set_cons_succ]
  refine wpAnyH_take (i := 3) (oi := ⟨some 192, _, _, _, _, _⟩) (v := ?_) rfl (by kernel_rfl) (by kernel_rfl) (by kernel_rfl) (fun _ _ _ h => h) (Or.inl ⟨by rfl, ?_⟩) (by assumption) ?_
  rotate_left
  · (intro w hSw; (try dsimp only at hSw); go_simp; try with_reducible rfl)
  simp only [Act.put, List.setIfInBounds_toArray, List.set_cons_zero, List.set_cons_succ]
  refine wpAnyH_take (i := 7) (oi := ⟨some 196, _, _, _, _, _⟩) (v := ?_) rfl (by kernel_rfl) (by kernel_rfl) (by kernel_rfl) (fun _ _ _ h => h) (Or.inl ⟨by rfl, ?_⟩) (by assumption) ?_
  rotate_left
  · (intro w hSw; (try dsimp only at hSw); go_simp; try with_reducible rfl)
  simp only [Act.put, List.setIfInBounds_toArray, List.set_cons_zero, List.set_cons_succ]
  refine wpAnyH_take (i := 8) (oi := ⟨some 197, _, _, _, _, _⟩) (v := ?_) rfl (by kernel_rfl) (by kernel_rfl) (by kernel_rfl) (fun _ _ _ h => h) (Or.inl ⟨by rfl, ?_⟩) (by assumption) ?_
  rotate_left
  · (intro w hSw; (try dsimp only at hSw); go_simp; try with_reducible rfl)
  simp only [Act.put, List.setIfInBounds_toArray, List.set_cons_zero, List.set_cons_succ]
  refine wpAnyH_take (i := 12) (oi := ⟨some 201, _, _, _, _, _⟩) (v := ?_) rfl (by kernel_rfl) (by kernel_rfl) (by kernel_rfl) (fun _ _ _ h => h) (Or.inl ⟨by rfl, ?_⟩) (by assumption) ?_
  rotate_left
  · (intro w hSw; (try dsimp only at hSw); go_simp; try with_reducible rfl)
  simp only [Act.put, List.setIfInBounds_toArray, List.set_cons_zero, List.set_cons_succ]
  refine wpAnyH_take (i := 13) (oi := ⟨some 202, _, _, _, _, _⟩) (v := ?_) rfl (by kernel_rfl) (by kernel_rfl) (by kernel_rfl) (fun _ _ _ h => h) (Or.inl ⟨by rfl, ?_⟩) (by assumption) ?_
  rotate_left
  · (intro w hSw; (try dsimp only at hSw); go_simp; try with_reducible rfl)
  simp only [Act.put, List.setIfInBounds_toArray, List.set_cons_zero, List.set_cons_succ]
  refine wpAnyH_ready (rs := [4]) (by kernel_rfl) (by simp) ?_
  refine AllReadyH.cons (o := ⟨some 193, _, _, _, _, _⟩) rfl (fun K hK => ?_) AllReadyH.nil
  go_simp
  go_at_call 16; refine (HRd.out _).mono ?_; rintro e w' ⟨rfl, md, rfl⟩
  refine hK.out _ _ (by (try dsimp only); exact ⟨n0, n1, n2, n3, n4, n5⟩) ?_
  clear hK K hHeld
  intro hHeld
  try simp only [Act.put, List.setIfInBounds_toArray, List.set_cons_zero, List.set_cons_succ]
  refine wpAnyH_take (i := 5) (oi := ⟨some 194, _, _, _, _, _⟩) (v := ?_) rfl (by kernel_rfl) (by kernel_rfl) (by kernel_rfl) (fun _ _ _ h => h) (Or.inl ⟨by rfl, ?_⟩) (by assumption) ?_
  rotate_left
  · (intro w hSw; (try dsimp only at hSw); go_simp; try with_reducible rfl)
  simp only [Act.put, List.setIfInBounds_toArray, List.set_cons_zero, List.set_cons_succ]
  refine wpAnyH_take (i := 6) (oi := ⟨some 195, _, _, _, _, _⟩) (v := ?_) rfl (by kernel_rfl) (by kernel_rfl) (by kernel_rfl) (fun _ _ _ h => h) (Or.inl ⟨by rfl, ?_⟩) (by assumption) ?_
  rotate_left
  · (intro w hSw; (try dsimp only at hSw); go_simp; try with_reducible rfl)
  simp only [Act.put, List.setIfInBounds_toArray, List.set_cons_zero, List.set_cons_succ]
  refine wpAnyH_ready (rs := [9]) (by kernel_rfl) (by simp) ?_
  refine AllReadyH.cons (o := ⟨some 198, _, _, _, _, _⟩) rfl (fun K hK => ?_) AllReadyH.nil
  go_simp
  go_at_call 16; refine (HRn.out _).mono ?_; rintro e w' ⟨rfl, mn, rfl⟩
  refine hK.out _ _ (by (try dsimp only); exact ⟨n0, n1, n2, n3, n4, n5⟩) ?_
  clear hK K hHeld
  intro hHeld
  try simp only [Act.put, List.setIfInBounds_toArray, List.set_cons_zero, List.set_cons_succ]
  refine wpAnyH_take (i := 10) (oi := ⟨some 199, _, _, _, _, _⟩) (v := ?_) rfl (by kernel_rfl) (by kernel_rfl) (by kernel_rfl) (fun _ _ _ h => h) (Or.inl ⟨by rfl, ?_⟩) (by assumption) ?_
  rotate_left
  · (intro w hSw; (try dsimp only at hSw); go_simp; try with_reducible rfl)
  simp only [Act.put, List.setIfInBounds_toArray, List.set_cons_zero, List.set_cons_succ]
  refine wpAnyH_take (i := 11) (oi := ⟨some 200, _, _, _, _, _⟩) (v := ?_) rfl (by kernel_rfl) (by kernel_rfl) (by kernel_rfl) (fun _ _ _ h => h) (Or.inl ⟨by rfl, ?_⟩) (by assumption) ?_
  rotate_left
  · (intro w hSw; (try dsimp only at hSw); go_simp; try with_reducible rfl)
  simp only [Act.put, List.setIfInBounds_toArray, List.set_cons_zero, List.set_cons_succ]
  refine wpAnyH_ready (rs := [14]) (by kernel_rfl) (by simp) ?_
  refine AllReadyH.cons (o := ⟨some 203, _, _, _, _, _⟩) rfl (fun K hK => ?_) AllReadyH.nil
  go_simp
  go_at_call 16; refine (HRm.out _).mono ?_; rintro e w' ⟨rfl, mm, rfl⟩
  refine hK.out _ _ (by (try dsimp only); exact ⟨n0, n1, n2, n3, n4, n5⟩) ?_
  clear hK K hHeld
  intro hHeld
  try simp only [Act.put, List.setIfInBounds_toArray, List.set_cons_zero, List.set_cons_succ]
  refine wpAnyH_take (i := 15) (oi := ⟨some 204, _, _, _, _, _⟩) (v := ?_) rfl (by kernel_rfl) (by kernel_rfl) (by kernel_rfl) (fun _ _ _ h => h) (Or.inl ⟨by rfl, ?_⟩) (by assumption) ?_
  rotate_left
  · (intro w hSw; (try dsimp only at hSw); go_simp; try with_reducible rfl)
  simp only [Act.put, List.setIfInBounds_toArray, List.set_cons_zero, List.set_cons_succ]
  refine wpAnyH_take (i := 16) (oi := ⟨some 2, _, _, _, _, _⟩) (v := ?_) rfl (by kernel_rfl) (by kernel_rfl) (by kernel_rfl) (fun _ _ _ h => h) (Or.inl ⟨by rfl, ?_⟩) (by assumption) ?_
  rotate_left
  · (intro w hSw; (try dsimp only at hSw); go_simp; try with_reducible rfl)
  simp only [Act.put, List.setIfInBounds_toArray, List.set_cons_zero, List.set_cons_succ]
  refine wpAnyH_done (by kernel_rfl) ?_ _
  go_wp2_with fail
  go_ret
  exact ⟨by rw [HX.out]; rfl, by repeat (first | exact HB7.out | refine below_drewN ?_ _ | refine Below.drew ?_ | refine below_alloc ?_ _)⟩
set_option maxRecDepth 100000 in
set_option maxHeartbeats 6400000 in
theorem rpr_10 (d n m imm kind : Int) (w : World) (hr : rightP 10 d n m imm kind) :
    Calls Try.prog 10 #[instrW 10 d n m imm kind] w fun e w' => e = .returned (.string (ba (printA 10 d n m imm kind))) ∧ Below w.heap.size w w' := by
  have HB := Lib.hid (below_alloc (Below.refl w.heap.size w) (.cells #[.int .i64 10, .int .i64 d, .int .i64 n, .int .i64 m, .int .i64 imm, .int .i64 kind] 23))
  have HN := Lib.hid (own_instr w 10 d n m imm kind)
  have HC := Lib.hid (right3_any 10 d n m imm kind (w.alloc (.cells #[.int .i64 10, .int .i64 d, .int .i64 n, .int .i64 m, .int .i64 imm, .int .i64 kind] 23)))
  rw [right_yes hr] at HC
  have HP := Lib.hid (show printA 10 d n m imm kind = textA 10 d n m imm kind from if_pos hr)
  obtain ⟨⟨hop, hd, hn, hm⟩, hB, hCC, hDD⟩ := hr
  have hi : I64 imm := by unfold rightB at hB; unfold rightC at hCC; constructor <;> omega
  have hneg : ¬ imm < 0 := by unfold rightB at hB; unfold rightC at hCC; omega
  have HRC := Lib.hid hCC
  have HRDD := Lib.hid hDD
  clear hB hCC hDD
  have HII := Lib.hid (fun w1 => rint_any imm w1 hi)
  have HRd := Lib.hid (fun w1 => rreg_any d w1 (by omega))
  have HRn := Lib.hid (fun w1 => rreg_any n w1 (by omega))
  have HRm := Lib.hid (fun w1 => rreg_any m w1 (by omega))
  have bI := intL_len imm hi
  have bD := regL_len d (by constructor <;> omega)
  have bN := regL_len n (by constructor <;> omega)
  have bM := regL_len m (by constructor <;> omega)
  obtain ⟨I, hI⟩ : ∃ I : List UInt8, I = [35] ++ intL imm := ⟨_, rfl⟩
  have hcatI : ∀ wx : World, (Op.stringOp .add { data := #[35] } (ba (intL imm))).run Try.prog wx = .ok (.string (ba I)) wx := cat_bb (P := Try.prog) [35] _ I hI (by simp; omega)
  obtain ⟨TP, hTP⟩ : ∃ I : List UInt8, I = [46, 43] ++ intL imm := ⟨_, rfl⟩
  have hcatP : ∀ wx : World, (Op.stringOp .add { data := #[46, 43] } (ba (intL imm))).run Try.prog wx = .ok (.string (ba TP)) wx := cat_bb (P := Try.prog) [46, 43] _ TP hTP (by simp; omega)
  obtain ⟨TN, hTN⟩ : ∃ I : List UInt8, I = [46] ++ intL imm := ⟨_, rfl⟩
  have hcatN : ∀ wx : World, (Op.stringOp .add { data := #[46] } (ba (intL imm))).run Try.prog wx = .ok (.string (ba TN)) wx := cat_bb (P := Try.prog) [46] _ TN hTN (by simp; omega)
  have bII : I.length ≤ 66 := by rw [hI]; simp; omega
  have bTP : TP.length ≤ 67 := by rw [hTP]; simp; omega
  have bTN : TN.length ≤ 67 := by rw [hTN]; simp; omega
  have HIM := Lib.hid (show immL imm = I from hI.symm)
  have HTP := Lib.hid (fun (h : ¬ imm < 0) => show targetL imm = TP by unfold targetL; rw [if_neg h, hTP])
  have HTN := Lib.hid (fun (h : imm < 0) => show targetL imm = TN by unfold targetL; rw [if_pos h, hTN])
  clear hI hTP hTN
  go_enter Try.func10, Try.ntmps10
  go_wp2_with fail
  refine (HC.out).mono ?_
  rintro e w2 ⟨rfl, hb⟩
  have HB2 := Lib.hid (below_trans HB.out hb)
  have hlt := (HN.out.below hb).lt
  have HN2 := Lib.hid (HN.out.below hb)
  obtain ⟨n0, n1, n2, n3, n4, n5⟩ := blk_instr HN2.out
  clear hb HN HB HC
  go_wp2_with fail
  refine (HII.out _).mono ?_
  rintro e w' ⟨rfl, m1, rfl⟩
  go_wp2_with fail
  refine (HII.out _).mono ?_
  rintro e w' ⟨rfl, m2, rfl⟩
  clear HTP HTN
  go_wp2_with fail
  refine (rname_10 _).mono ?_
  rintro e w7 ⟨rfl, hb⟩
  have HB7 := Lib.hid (below_trans (below_drewN HB2.out _) hb)
  have HN7 := Lib.hid ((HN2.out.dn _).below hb)
  have hlt7 := HN7.out.lt
  clear hb n0 n1 n2 n3 n4 n5 hlt HB2 HN2
  obtain ⟨n0, n1, n2, n3, n4, n5⟩ := blk_instr HN7.out
  obtain ⟨A1, hA1⟩ : ∃ A : List UInt8, A = [65, 78, 68, 32] ++ (regL d) := ⟨_, rfl⟩
  have hcat1 : ∀ wx : World, (Op.stringOp .add ({ data := #[65, 78, 68] } ++ { data := #[32] } : ByteArray) (ba (regL d))).run Try.prog wx = .ok (.string (ba A1)) wx := by
    have hq : ({ data := #[65, 78, 68] } ++ { data := #[32] } : ByteArray) = ba [65, 78, 68, 32] := by kernel_rfl
    rw [hq]
    exact cat_bb (P := Try.prog) _ _ A1 hA1 (by simp; omega)
  obtain ⟨A2, hA2⟩ : ∃ A : List UInt8, A = A1 ++ [44] := ⟨_, rfl⟩
  have hcat2 : ∀ wx : World, (Op.stringOp .add (ba A1) { data := #[44] }).run Try.prog wx = .ok (.string (ba A2)) wx := cat_bb (P := Try.prog) _ _ A2 hA2 (by rw [hA1]; simp; omega)
  obtain ⟨A3, hA3⟩ : ∃ A : List UInt8, A = A2 ++ (regL n) := ⟨_, rfl⟩
  have hcat3 : ∀ wx : World, (Op.stringOp .add (ba A2) (ba (regL n))).run Try.prog wx = .ok (.string (ba A3)) wx := cat_bb (P := Try.prog) _ _ A3 hA3 (by rw [hA2]; rw [hA1]; simp; omega)
  obtain ⟨A4, hA4⟩ : ∃ A : List UInt8, A = A3 ++ [44] := ⟨_, rfl⟩
  have hcat4 : ∀ wx : World, (Op.stringOp .add (ba A3) { data := #[44] }).run Try.prog wx = .ok (.string (ba A4)) wx := cat_bb (P := Try.prog) _ _ A4 hA4 (by rw [hA3]; rw [hA2]; rw [hA1]; simp; omega)
  obtain ⟨A5, hA5⟩ : ∃ A : List UInt8, A = A4 ++ (regL m) := ⟨_, rfl⟩
  have hcat5 : ∀ wx : World, (Op.stringOp .add (ba A4) (ba (regL m))).run Try.prog wx = .ok (.string (ba A5)) wx := cat_bb (P := Try.prog) _ _ A5 hA5 (by rw [hA4]; rw [hA3]; rw [hA2]; rw [hA1]; simp; omega)
  have HX := Lib.hid (show printA 10 d n m imm kind = A5 by rw [HP.out, hA5, hA4, hA3, hA2, hA1]; unfold textA; simp [threeL, nameL])
  clear hA1 hA2 hA3 hA4 hA5
  go_wp2_with fail
  refine wp_region_held_drew (S := (fun w' => w'.cell? ⟨w.heap.size, 0, none⟩ = some (.int .i64 10) ∧ w'.cell? ⟨w.heap.size, 1, none⟩ = some (.int .i64 d) ∧ w'.cell? ⟨w.heap.size, 2, none⟩ = some (.int .i64 n) ∧ w'.cell? ⟨w.heap.size, 3, none⟩ = some (.int .i64 m) ∧ w'.cell? ⟨w.heap.size, 4, none⟩ = some (.int .i64 imm) ∧ w'.cell? ⟨w.heap.size, 5, none⟩ = some (.int .i64 kind))) (by kernel_rfl) (by (try dsimp only); exact ⟨n0, n1, n2, n3, n4, n5⟩) (fun hHeld => ?_)
  refine wpAnyH_take (i := 0) (oi := ⟨some 189, _, _, _, _, _⟩) (v := ?_) rfl (by kernel_rfl) (by kernel_rfl) (by kernel_rfl) (fun _ _ _ h => h) (Or.inl ⟨by rfl, ?_⟩) (by assumption) ?_
  rotate_left
  · (intro w hSw; (try dsimp only at hSw); go_simp; try with_reducible rfl)
  simp only [Act.put, List.setIfInBounds_toArray, List.set_cons_zero, List.set_cons_succ]
  refine wpAnyH_take (i := 1) (oi := ⟨some 190, _, _, _, _, _⟩) (v := ?_) rfl (by kernel_rfl) (by kernel_rfl) (by kernel_rfl) (fun _ _ _ h => h) (Or.inl ⟨by rfl, ?_⟩) (by assumption) ?_
  rotate_left
  · (intro w hSw; (try dsimp only at hSw); go_simp; try with_reducible rfl)
  simp only [Act.put, List.setIfInBounds_toArray, List.set_cons_zero, List.set_cons_succ]
  refine wpAnyH_take (i := 2) (oi := ⟨some 191, _, _, _, _, _⟩) (v := ?_) rfl (by kernel_rfl) (by kernel_rfl) (by kernel_rfl) (fun _ _ _ h => h) (Or.inl ⟨by rfl, ?_⟩) (by assumption) ?_
  rotate_left
  · (intro w hSw; (try dsimp only at hSw); go_simp; try with_reducible rfl)
  simp only [Act.put, List.setIfInBounds_toArray, List.set_cons_zero, List.set_cons_succ]
  refine wpAnyH_take (i := 3) (oi := ⟨some 192, _, _, _, _, _⟩) (v := ?_) rfl (by kernel_rfl) (by kernel_rfl) (by kernel_rfl) (fun _ _ _ h => h) (Or.inl ⟨by rfl, ?_⟩) (by assumption) ?_
  rotate_left
  · (intro w hSw; (try dsimp only at hSw); go_simp; try with_reducible rfl)
  simp only [Act.put, List.setIfInBounds_toArray, List.set_cons_zero, List.set_cons_succ]
  refine wpAnyH_take (i := 7) (oi := ⟨some 196, _, _, _, _, _⟩) (v := ?_) rfl (by kernel_rfl) (by kernel_rfl) (by kernel_rfl) (fun _ _ _ h => h) (Or.inl ⟨by rfl, ?_⟩) (by assumption) ?_
  rotate_left
  · (intro w hSw; (try dsimp only at hSw); go_simp; try with_reducible rfl)
  simp only [Act.put, List.setIfInBounds_toArray, List.set_cons_zero, List.set_cons_succ]
  refine wpAnyH_take (i := 8) (oi := ⟨some 197, _, _, _, _, _⟩) (v := ?_) rfl (by kernel_rfl) (by kernel_rfl) (by kernel_rfl) (fun _ _ _ h => h) (Or.inl ⟨by rfl, ?_⟩) (by assumption) ?_
  rotate_left
  · (intro w hSw; (try dsimp only at hSw); go_simp; try with_reducible rfl)
  simp only [Act.put, List.setIfInBounds_toArray, List.set_cons_zero, List.set_cons_succ]
  refine wpAnyH_take (i := 12) (oi := ⟨some 201, _, _, _, _, _⟩) (v := ?_) rfl (by kernel_rfl) (by kernel_rfl) (by kernel_rfl) (fun _ _ _ h => h) (Or.inl ⟨by rfl, ?_⟩) (by assumption) ?_
  rotate_left
  · (intro w hSw; (try dsimp only at hSw); go_simp; try with_reducible rfl)
  simp only [Act.put, List.setIfInBounds_toArray, List.set_cons_zero, List.set_cons_succ]
  refine wpAnyH_take (i := 13) (oi := ⟨some 202, _, _, _, _, _⟩) (v := ?_) rfl (by kernel_rfl) (by kernel_rfl) (by kernel_rfl) (fun _ _ _ h => h) (Or.inl ⟨by rfl, ?_⟩) (by assumption) ?_
  rotate_left
  · (intro w hSw; (try dsimp only at hSw); go_simp; try with_reducible rfl)
  simp only [Act.put, List.setIfInBounds_toArray, List.set_cons_zero, List.set_cons_succ]
  refine wpAnyH_ready (rs := [4]) (by kernel_rfl) (by simp) ?_
  refine AllReadyH.cons (o := ⟨some 193, _, _, _, _, _⟩) rfl (fun K hK => ?_) AllReadyH.nil
  go_simp
  go_at_call 16; refine (HRd.out _).mono ?_; rintro e w' ⟨rfl, md, rfl⟩
  refine hK.out _ _ (by (try dsimp only); exact ⟨n0, n1, n2, n3, n4, n5⟩) ?_
  clear hK K hHeld
  intro hHeld
  try simp only [Act.put, List.setIfInBounds_toArray, List.set_cons_zero, List.set_cons_succ]
  refine wpAnyH_take (i := 5) (oi := ⟨some 194, _, _, _, _, _⟩) (v := ?_) rfl (by kernel_rfl) (by kernel_rfl) (by kernel_rfl) (fun _ _ _ h => h) (Or.inl ⟨by rfl, ?_⟩) (by assumption) ?_
  rotate_left
  · (intro w hSw; (try dsimp only at hSw); go_simp; try with_reducible rfl)
  simp only [Act.put, List.setIfInBounds_toArray, List.set_cons_zero, List.set_cons_succ]
  refine wpAnyH_take (i := 6) (oi := ⟨some 195, _, _, _, _, _⟩) (v := ?_) rfl (by kernel_rfl) (by kernel_rfl) (by kernel_rfl) (fun _ _ _ h => h) (Or.inl ⟨by rfl, ?_⟩) (by assumption) ?_
  rotate_left
  · (intro w hSw; (try dsimp only at hSw); go_simp; try with_reducible rfl)
  simp only [Act.put, List.setIfInBounds_toArray, List.set_cons_zero, List.set_cons_succ]
  refine wpAnyH_ready (rs := [9]) (by kernel_rfl) (by simp) ?_
  refine AllReadyH.cons (o := ⟨some 198, _, _, _, _, _⟩) rfl (fun K hK => ?_) AllReadyH.nil
  go_simp
  go_at_call 16; refine (HRn.out _).mono ?_; rintro e w' ⟨rfl, mn, rfl⟩
  refine hK.out _ _ (by (try dsimp only); exact ⟨n0, n1, n2, n3, n4, n5⟩) ?_
  clear hK K hHeld
  intro hHeld
  try simp only [Act.put, List.setIfInBounds_toArray, List.set_cons_zero, List.set_cons_succ]
  refine wpAnyH_take (i := 10) (oi := ⟨some 199, _, _, _, _, _⟩) (v := ?_) rfl (by kernel_rfl) (by kernel_rfl) (by kernel_rfl) (fun _ _ _ h => h) (Or.inl ⟨by rfl, ?_⟩) (by assumption) ?_
  rotate_left
  · (intro w hSw; (try dsimp only at hSw); go_simp; try with_reducible rfl)
  simp only [Act.put, List.setIfInBounds_toArray, List.set_cons_zero, List.set_cons_succ]
  refine wpAnyH_take (i := 11) (oi := ⟨some 200, _, _, _, _, _⟩) (v := ?_) rfl (by kernel_rfl) (by kernel_rfl) (by kernel_rfl) (fun _ _ _ h => h) (Or.inl ⟨by rfl, ?_⟩) (by assumption) ?_
  rotate_left
  · (intro w hSw; (try dsimp only at hSw); go_simp; try with_reducible rfl)
  simp only [Act.put, List.setIfInBounds_toArray, List.set_cons_zero, List.set_cons_succ]
  refine wpAnyH_ready (rs := [14]) (by kernel_rfl) (by simp) ?_
  refine AllReadyH.cons (o := ⟨some 203, _, _, _, _, _⟩) rfl (fun K hK => ?_) AllReadyH.nil
  go_simp
  go_at_call 16; refine (HRm.out _).mono ?_; rintro e w' ⟨rfl, mm, rfl⟩
  refine hK.out _ _ (by (try dsimp only); exact ⟨n0, n1, n2, n3, n4, n5⟩) ?_
  clear hK K hHeld
  intro hHeld
  try simp only [Act.put, List.setIfInBounds_toArray, List.set_cons_zero, List.set_cons_succ]
  refine wpAnyH_take (i := 15) (oi := ⟨some 204, _, _, _, _, _⟩) (v := ?_) rfl (by kernel_rfl) (by kernel_rfl) (by kernel_rfl) (fun _ _ _ h => h) (Or.inl ⟨by rfl, ?_⟩) (by assumption) ?_
  rotate_left
  · (intro w hSw; (try dsimp only at hSw); go_simp; try with_reducible rfl)
  simp only [Act.put, List.setIfInBounds_toArray, List.set_cons_zero, List.set_cons_succ]
  refine wpAnyH_take (i := 16) (oi := ⟨some 2, _, _, _, _, _⟩) (v := ?_) rfl (by kernel_rfl) (by kernel_rfl) (by kernel_rfl) (fun _ _ _ h => h) (Or.inl ⟨by rfl, ?_⟩) (by assumption) ?_
  rotate_left
  · (intro w hSw; (try dsimp only at hSw); go_simp; try with_reducible rfl)
  simp only [Act.put, List.setIfInBounds_toArray, List.set_cons_zero, List.set_cons_succ]
  refine wpAnyH_done (by kernel_rfl) ?_ _
  go_wp2_with fail
  go_ret
  exact ⟨by rw [HX.out]; rfl, by repeat (first | exact HB7.out | refine below_drewN ?_ _ | refine Below.drew ?_ | refine below_alloc ?_ _)⟩
set_option maxRecDepth 100000 in
set_option maxHeartbeats 6400000 in
theorem rpr_11 (d n m imm kind : Int) (w : World) (hr : rightP 11 d n m imm kind) :
    Calls Try.prog 10 #[instrW 11 d n m imm kind] w fun e w' => e = .returned (.string (ba (printA 11 d n m imm kind))) ∧ Below w.heap.size w w' := by
  have HB := Lib.hid (below_alloc (Below.refl w.heap.size w) (.cells #[.int .i64 11, .int .i64 d, .int .i64 n, .int .i64 m, .int .i64 imm, .int .i64 kind] 23))
  have HN := Lib.hid (own_instr w 11 d n m imm kind)
  have HC := Lib.hid (right3_any 11 d n m imm kind (w.alloc (.cells #[.int .i64 11, .int .i64 d, .int .i64 n, .int .i64 m, .int .i64 imm, .int .i64 kind] 23)))
  rw [right_yes hr] at HC
  have HP := Lib.hid (show printA 11 d n m imm kind = textA 11 d n m imm kind from if_pos hr)
  obtain ⟨⟨hop, hd, hn, hm⟩, hB, hCC, hDD⟩ := hr
  have hi : I64 imm := by unfold rightB at hB; unfold rightC at hCC; constructor <;> omega
  have hneg : ¬ imm < 0 := by unfold rightB at hB; unfold rightC at hCC; omega
  have HRC := Lib.hid hCC
  have HRDD := Lib.hid hDD
  clear hB hCC hDD
  have HII := Lib.hid (fun w1 => rint_any imm w1 hi)
  have HRd := Lib.hid (fun w1 => rreg_any d w1 (by omega))
  have HRn := Lib.hid (fun w1 => rreg_any n w1 (by omega))
  have HRm := Lib.hid (fun w1 => rreg_any m w1 (by omega))
  have bI := intL_len imm hi
  have bD := regL_len d (by constructor <;> omega)
  have bN := regL_len n (by constructor <;> omega)
  have bM := regL_len m (by constructor <;> omega)
  obtain ⟨I, hI⟩ : ∃ I : List UInt8, I = [35] ++ intL imm := ⟨_, rfl⟩
  have hcatI : ∀ wx : World, (Op.stringOp .add { data := #[35] } (ba (intL imm))).run Try.prog wx = .ok (.string (ba I)) wx := cat_bb (P := Try.prog) [35] _ I hI (by simp; omega)
  obtain ⟨TP, hTP⟩ : ∃ I : List UInt8, I = [46, 43] ++ intL imm := ⟨_, rfl⟩
  have hcatP : ∀ wx : World, (Op.stringOp .add { data := #[46, 43] } (ba (intL imm))).run Try.prog wx = .ok (.string (ba TP)) wx := cat_bb (P := Try.prog) [46, 43] _ TP hTP (by simp; omega)
  obtain ⟨TN, hTN⟩ : ∃ I : List UInt8, I = [46] ++ intL imm := ⟨_, rfl⟩
  have hcatN : ∀ wx : World, (Op.stringOp .add { data := #[46] } (ba (intL imm))).run Try.prog wx = .ok (.string (ba TN)) wx := cat_bb (P := Try.prog) [46] _ TN hTN (by simp; omega)
  have bII : I.length ≤ 66 := by rw [hI]; simp; omega
  have bTP : TP.length ≤ 67 := by rw [hTP]; simp; omega
  have bTN : TN.length ≤ 67 := by rw [hTN]; simp; omega
  have HIM := Lib.hid (show immL imm = I from hI.symm)
  have HTP := Lib.hid (fun (h : ¬ imm < 0) => show targetL imm = TP by unfold targetL; rw [if_neg h, hTP])
  have HTN := Lib.hid (fun (h : imm < 0) => show targetL imm = TN by unfold targetL; rw [if_pos h, hTN])
  clear hI hTP hTN
  go_enter Try.func10, Try.ntmps10
  go_wp2_with fail
  refine (HC.out).mono ?_
  rintro e w2 ⟨rfl, hb⟩
  have HB2 := Lib.hid (below_trans HB.out hb)
  have hlt := (HN.out.below hb).lt
  have HN2 := Lib.hid (HN.out.below hb)
  obtain ⟨n0, n1, n2, n3, n4, n5⟩ := blk_instr HN2.out
  clear hb HN HB HC
  go_wp2_with fail
  refine (HII.out _).mono ?_
  rintro e w' ⟨rfl, m1, rfl⟩
  go_wp2_with fail
  refine (HII.out _).mono ?_
  rintro e w' ⟨rfl, m2, rfl⟩
  clear HTP HTN
  go_wp2_with fail
  refine (rname_11 _).mono ?_
  rintro e w7 ⟨rfl, hb⟩
  have HB7 := Lib.hid (below_trans (below_drewN HB2.out _) hb)
  have HN7 := Lib.hid ((HN2.out.dn _).below hb)
  have hlt7 := HN7.out.lt
  clear hb n0 n1 n2 n3 n4 n5 hlt HB2 HN2
  obtain ⟨n0, n1, n2, n3, n4, n5⟩ := blk_instr HN7.out
  obtain ⟨A1, hA1⟩ : ∃ A : List UInt8, A = [79, 82, 82, 32] ++ (regL d) := ⟨_, rfl⟩
  have hcat1 : ∀ wx : World, (Op.stringOp .add ({ data := #[79, 82, 82] } ++ { data := #[32] } : ByteArray) (ba (regL d))).run Try.prog wx = .ok (.string (ba A1)) wx := by
    have hq : ({ data := #[79, 82, 82] } ++ { data := #[32] } : ByteArray) = ba [79, 82, 82, 32] := by kernel_rfl
    rw [hq]
    exact cat_bb (P := Try.prog) _ _ A1 hA1 (by simp; omega)
  obtain ⟨A2, hA2⟩ : ∃ A : List UInt8, A = A1 ++ [44] := ⟨_, rfl⟩
  have hcat2 : ∀ wx : World, (Op.stringOp .add (ba A1) { data := #[44] }).run Try.prog wx = .ok (.string (ba A2)) wx := cat_bb (P := Try.prog) _ _ A2 hA2 (by rw [hA1]; simp; omega)
  obtain ⟨A3, hA3⟩ : ∃ A : List UInt8, A = A2 ++ (regL n) := ⟨_, rfl⟩
  have hcat3 : ∀ wx : World, (Op.stringOp .add (ba A2) (ba (regL n))).run Try.prog wx = .ok (.string (ba A3)) wx := cat_bb (P := Try.prog) _ _ A3 hA3 (by rw [hA2]; rw [hA1]; simp; omega)
  obtain ⟨A4, hA4⟩ : ∃ A : List UInt8, A = A3 ++ [44] := ⟨_, rfl⟩
  have hcat4 : ∀ wx : World, (Op.stringOp .add (ba A3) { data := #[44] }).run Try.prog wx = .ok (.string (ba A4)) wx := cat_bb (P := Try.prog) _ _ A4 hA4 (by rw [hA3]; rw [hA2]; rw [hA1]; simp; omega)
  obtain ⟨A5, hA5⟩ : ∃ A : List UInt8, A = A4 ++ (regL m) := ⟨_, rfl⟩
  have hcat5 : ∀ wx : World, (Op.stringOp .add (ba A4) (ba (regL m))).run Try.prog wx = .ok (.string (ba A5)) wx := cat_bb (P := Try.prog) _ _ A5 hA5 (by rw [hA4]; rw [hA3]; rw [hA2]; rw [hA1]; simp; omega)
  have HX := Lib.hid (show printA 11 d n m imm kind = A5 by rw [HP.out, hA5, hA4, hA3, hA2, hA1]; unfold textA; simp [threeL, nameL])
  clear hA1 hA2 hA3 hA4 hA5
  go_wp2_with fail
  refine wp_region_held_drew (S := (fun w' => w'.cell? ⟨w.heap.size, 0, none⟩ = some (.int .i64 11) ∧ w'.cell? ⟨w.heap.size, 1, none⟩ = some (.int .i64 d) ∧ w'.cell? ⟨w.heap.size, 2, none⟩ = some (.int .i64 n) ∧ w'.cell? ⟨w.heap.size, 3, none⟩ = some (.int .i64 m) ∧ w'.cell? ⟨w.heap.size, 4, none⟩ = some (.int .i64 imm) ∧ w'.cell? ⟨w.heap.size, 5, none⟩ = some (.int .i64 kind))) (by kernel_rfl) (by (try dsimp only); exact ⟨n0, n1, n2, n3, n4, n5⟩) (fun hHeld => ?_)
  refine wpAnyH_take (i := 0) (oi := ⟨some 189, _, _, _, _, _⟩) (v := ?_) rfl (by kernel_rfl) (by kernel_rfl) (by kernel_rfl) (fun _ _ _ h => h) (Or.inl ⟨by rfl, ?_⟩) (by assumption) ?_
  rotate_left
  · (intro w hSw; (try dsimp only at hSw); go_simp; try with_reducible rfl)
  simp only [Act.put, List.setIfInBounds_toArray, List.set_cons_zero, List.set_cons_succ]
  refine wpAnyH_take (i := 1) (oi := ⟨some 190, _, _, _, _, _⟩) (v := ?_) rfl (by kernel_rfl) (by kernel_rfl) (by kernel_rfl) (fun _ _ _ h => h) (Or.inl ⟨by rfl, ?_⟩) (by assumption) ?_
  rotate_left
  · (intro w hSw; (try dsimp only at hSw); go_simp; try with_reducible rfl)
  simp only [Act.put, List.setIfInBounds_toArray, List.set_cons_zero, List.set_cons_succ]
  refine wpAnyH_take (i := 2) (oi := ⟨some 191, _, _, _, _, _⟩) (v := ?_) rfl (by kernel_rfl) (by kernel_rfl) (by kernel_rfl) (fun _ _ _ h => h) (Or.inl ⟨by rfl, ?_⟩) (by assumption) ?_
  rotate_left
  · (intro w hSw; (try dsimp only at hSw); go_simp; try with_reducible rfl)
  simp only [Act.put, List.setIfInBounds_toArray, List.set_cons_zero, List.set_cons_succ]
  refine wpAnyH_take (i := 3) (oi := ⟨some 192, _, _, _, _, _⟩) (v := ?_) rfl (by kernel_rfl) (by kernel_rfl) (by kernel_rfl) (fun _ _ _ h => h) (Or.inl ⟨by rfl, ?_⟩) (by assumption) ?_
  rotate_left
  · (intro w hSw; (try dsimp only at hSw); go_simp; try with_reducible rfl)
  simp only [Act.put, List.setIfInBounds_toArray, List.set_cons_zero, List.set_cons_succ]
  refine wpAnyH_take (i := 7) (oi := ⟨some 196, _, _, _, _, _⟩) (v := ?_) rfl (by kernel_rfl) (by kernel_rfl) (by kernel_rfl) (fun _ _ _ h => h) (Or.inl ⟨by rfl, ?_⟩) (by assumption) ?_
  rotate_left
  · (intro w hSw; (try dsimp only at hSw); go_simp; try with_reducible rfl)
  simp only [Act.put, List.setIfInBounds_toArray, List.set_cons_zero, List.set_cons_succ]
  refine wpAnyH_take (i := 8) (oi := ⟨some 197, _, _, _, _, _⟩) (v := ?_) rfl (by kernel_rfl) (by kernel_rfl) (by kernel_rfl) (fun _ _ _ h => h) (Or.inl ⟨by rfl, ?_⟩) (by assumption) ?_
  rotate_left
  · (intro w hSw; (try dsimp only at hSw); go_simp; try with_reducible rfl)
  simp only [Act.put, List.setIfInBounds_toArray, List.set_cons_zero, List.set_cons_succ]
  refine wpAnyH_take (i := 12) (oi := ⟨some 201, _, _, _, _, _⟩) (v := ?_) rfl (by kernel_rfl) (by kernel_rfl) (by kernel_rfl) (fun _ _ _ h => h) (Or.inl ⟨by rfl, ?_⟩) (by assumption) ?_
  rotate_left
  · (intro w hSw; (try dsimp only at hSw); go_simp; try with_reducible rfl)
  simp only [Act.put, List.setIfInBounds_toArray, List.set_cons_zero, List.set_cons_succ]
  refine wpAnyH_take (i := 13) (oi := ⟨some 202, _, _, _, _, _⟩) (v := ?_) rfl (by kernel_rfl) (by kernel_rfl) (by kernel_rfl) (fun _ _ _ h => h) (Or.inl ⟨by rfl, ?_⟩) (by assumption) ?_
  rotate_left
  · (intro w hSw; (try dsimp only at hSw); go_simp; try with_reducible rfl)
  simp only [Act.put, List.setIfInBounds_toArray, List.set_cons_zero, List.set_cons_succ]
  refine wpAnyH_ready (rs := [4]) (by kernel_rfl) (by simp) ?_
  refine AllReadyH.cons (o := ⟨some 193, _, _, _, _, _⟩) rfl (fun K hK => ?_) AllReadyH.nil
  go_simp
  go_at_call 16; refine (HRd.out _).mono ?_; rintro e w' ⟨rfl, md, rfl⟩
  refine hK.out _ _ (by (try dsimp only); exact ⟨n0, n1, n2, n3, n4, n5⟩) ?_
  clear hK K hHeld
  intro hHeld
  try simp only [Act.put, List.setIfInBounds_toArray, List.set_cons_zero, List.set_cons_succ]
  refine wpAnyH_take (i := 5) (oi := ⟨some 194, _, _, _, _, _⟩) (v := ?_) rfl (by kernel_rfl) (by kernel_rfl) (by kernel_rfl) (fun _ _ _ h => h) (Or.inl ⟨by rfl, ?_⟩) (by assumption) ?_
  rotate_left
  · (intro w hSw; (try dsimp only at hSw); go_simp; try with_reducible rfl)
  simp only [Act.put, List.setIfInBounds_toArray, List.set_cons_zero, List.set_cons_succ]
  refine wpAnyH_take (i := 6) (oi := ⟨some 195, _, _, _, _, _⟩) (v := ?_) rfl (by kernel_rfl) (by kernel_rfl) (by kernel_rfl) (fun _ _ _ h => h) (Or.inl ⟨by rfl, ?_⟩) (by assumption) ?_
  rotate_left
  · (intro w hSw; (try dsimp only at hSw); go_simp; try with_reducible rfl)
  simp only [Act.put, List.setIfInBounds_toArray, List.set_cons_zero, List.set_cons_succ]
  refine wpAnyH_ready (rs := [9]) (by kernel_rfl) (by simp) ?_
  refine AllReadyH.cons (o := ⟨some 198, _, _, _, _, _⟩) rfl (fun K hK => ?_) AllReadyH.nil
  go_simp
  go_at_call 16; refine (HRn.out _).mono ?_; rintro e w' ⟨rfl, mn, rfl⟩
  refine hK.out _ _ (by (try dsimp only); exact ⟨n0, n1, n2, n3, n4, n5⟩) ?_
  clear hK K hHeld
  intro hHeld
  try simp only [Act.put, List.setIfInBounds_toArray, List.set_cons_zero, List.set_cons_succ]
  refine wpAnyH_take (i := 10) (oi := ⟨some 199, _, _, _, _, _⟩) (v := ?_) rfl (by kernel_rfl) (by kernel_rfl) (by kernel_rfl) (fun _ _ _ h => h) (Or.inl ⟨by rfl, ?_⟩) (by assumption) ?_
  rotate_left
  · (intro w hSw; (try dsimp only at hSw); go_simp; try with_reducible rfl)
  simp only [Act.put, List.setIfInBounds_toArray, List.set_cons_zero, List.set_cons_succ]
  refine wpAnyH_take (i := 11) (oi := ⟨some 200, _, _, _, _, _⟩) (v := ?_) rfl (by kernel_rfl) (by kernel_rfl) (by kernel_rfl) (fun _ _ _ h => h) (Or.inl ⟨by rfl, ?_⟩) (by assumption) ?_
  rotate_left
  · (intro w hSw; (try dsimp only at hSw); go_simp; try with_reducible rfl)
  simp only [Act.put, List.setIfInBounds_toArray, List.set_cons_zero, List.set_cons_succ]
  refine wpAnyH_ready (rs := [14]) (by kernel_rfl) (by simp) ?_
  refine AllReadyH.cons (o := ⟨some 203, _, _, _, _, _⟩) rfl (fun K hK => ?_) AllReadyH.nil
  go_simp
  go_at_call 16; refine (HRm.out _).mono ?_; rintro e w' ⟨rfl, mm, rfl⟩
  refine hK.out _ _ (by (try dsimp only); exact ⟨n0, n1, n2, n3, n4, n5⟩) ?_
  clear hK K hHeld
  intro hHeld
  try simp only [Act.put, List.setIfInBounds_toArray, List.set_cons_zero, List.set_cons_succ]
  refine wpAnyH_take (i := 15) (oi := ⟨some 204, _, _, _, _, _⟩) (v := ?_) rfl (by kernel_rfl) (by kernel_rfl) (by kernel_rfl) (fun _ _ _ h => h) (Or.inl ⟨by rfl, ?_⟩) (by assumption) ?_
  rotate_left
  · (intro w hSw; (try dsimp only at hSw); go_simp; try with_reducible rfl)
  simp only [Act.put, List.setIfInBounds_toArray, List.set_cons_zero, List.set_cons_succ]
  refine wpAnyH_take (i := 16) (oi := ⟨some 2, _, _, _, _, _⟩) (v := ?_) rfl (by kernel_rfl) (by kernel_rfl) (by kernel_rfl) (fun _ _ _ h => h) (Or.inl ⟨by rfl, ?_⟩) (by assumption) ?_
  rotate_left
  · (intro w hSw; (try dsimp only at hSw); go_simp; try with_reducible rfl)
  simp only [Act.put, List.setIfInBounds_toArray, List.set_cons_zero, List.set_cons_succ]
  refine wpAnyH_done (by kernel_rfl) ?_ _
  go_wp2_with fail
  go_ret
  exact ⟨by rw [HX.out]; rfl, by repeat (first | exact HB7.out | refine below_drewN ?_ _ | refine Below.drew ?_ | refine below_alloc ?_ _)⟩
set_option maxRecDepth 100000 in
set_option maxHeartbeats 6400000 in
theorem rpr_12 (d n m imm kind : Int) (w : World) (hr : rightP 12 d n m imm kind) :
    Calls Try.prog 10 #[instrW 12 d n m imm kind] w fun e w' => e = .returned (.string (ba (printA 12 d n m imm kind))) ∧ Below w.heap.size w w' := by
  have HB := Lib.hid (below_alloc (Below.refl w.heap.size w) (.cells #[.int .i64 12, .int .i64 d, .int .i64 n, .int .i64 m, .int .i64 imm, .int .i64 kind] 23))
  have HN := Lib.hid (own_instr w 12 d n m imm kind)
  have HC := Lib.hid (right3_any 12 d n m imm kind (w.alloc (.cells #[.int .i64 12, .int .i64 d, .int .i64 n, .int .i64 m, .int .i64 imm, .int .i64 kind] 23)))
  rw [right_yes hr] at HC
  have HP := Lib.hid (show printA 12 d n m imm kind = textA 12 d n m imm kind from if_pos hr)
  obtain ⟨⟨hop, hd, hn, hm⟩, hB, hCC, hDD⟩ := hr
  have hi : I64 imm := by unfold rightB at hB; unfold rightC at hCC; constructor <;> omega
  have hneg : ¬ imm < 0 := by unfold rightB at hB; unfold rightC at hCC; omega
  have HRC := Lib.hid hCC
  have HRDD := Lib.hid hDD
  clear hB hCC hDD
  have HII := Lib.hid (fun w1 => rint_any imm w1 hi)
  have HRd := Lib.hid (fun w1 => rreg_any d w1 (by omega))
  have HRn := Lib.hid (fun w1 => rreg_any n w1 (by omega))
  have HRm := Lib.hid (fun w1 => rreg_any m w1 (by omega))
  have bI := intL_len imm hi
  have bD := regL_len d (by constructor <;> omega)
  have bN := regL_len n (by constructor <;> omega)
  have bM := regL_len m (by constructor <;> omega)
  obtain ⟨I, hI⟩ : ∃ I : List UInt8, I = [35] ++ intL imm := ⟨_, rfl⟩
  have hcatI : ∀ wx : World, (Op.stringOp .add { data := #[35] } (ba (intL imm))).run Try.prog wx = .ok (.string (ba I)) wx := cat_bb (P := Try.prog) [35] _ I hI (by simp; omega)
  obtain ⟨TP, hTP⟩ : ∃ I : List UInt8, I = [46, 43] ++ intL imm := ⟨_, rfl⟩
  have hcatP : ∀ wx : World, (Op.stringOp .add { data := #[46, 43] } (ba (intL imm))).run Try.prog wx = .ok (.string (ba TP)) wx := cat_bb (P := Try.prog) [46, 43] _ TP hTP (by simp; omega)
  obtain ⟨TN, hTN⟩ : ∃ I : List UInt8, I = [46] ++ intL imm := ⟨_, rfl⟩
  have hcatN : ∀ wx : World, (Op.stringOp .add { data := #[46] } (ba (intL imm))).run Try.prog wx = .ok (.string (ba TN)) wx := cat_bb (P := Try.prog) [46] _ TN hTN (by simp; omega)
  have bII : I.length ≤ 66 := by rw [hI]; simp; omega
  have bTP : TP.length ≤ 67 := by rw [hTP]; simp; omega
  have bTN : TN.length ≤ 67 := by rw [hTN]; simp; omega
  have HIM := Lib.hid (show immL imm = I from hI.symm)
  have HTP := Lib.hid (fun (h : ¬ imm < 0) => show targetL imm = TP by unfold targetL; rw [if_neg h, hTP])
  have HTN := Lib.hid (fun (h : imm < 0) => show targetL imm = TN by unfold targetL; rw [if_pos h, hTN])
  clear hI hTP hTN
  go_enter Try.func10, Try.ntmps10
  go_wp2_with fail
  refine (HC.out).mono ?_
  rintro e w2 ⟨rfl, hb⟩
  have HB2 := Lib.hid (below_trans HB.out hb)
  have hlt := (HN.out.below hb).lt
  have HN2 := Lib.hid (HN.out.below hb)
  obtain ⟨n0, n1, n2, n3, n4, n5⟩ := blk_instr HN2.out
  clear hb HN HB HC
  go_wp2_with fail
  refine (HII.out _).mono ?_
  rintro e w' ⟨rfl, m1, rfl⟩
  go_wp2_with fail
  refine (HII.out _).mono ?_
  rintro e w' ⟨rfl, m2, rfl⟩
  clear HTP HTN
  go_wp2_with fail
  refine (rname_12 _).mono ?_
  rintro e w7 ⟨rfl, hb⟩
  have HB7 := Lib.hid (below_trans (below_drewN HB2.out _) hb)
  have HN7 := Lib.hid ((HN2.out.dn _).below hb)
  have hlt7 := HN7.out.lt
  clear hb n0 n1 n2 n3 n4 n5 hlt HB2 HN2
  obtain ⟨n0, n1, n2, n3, n4, n5⟩ := blk_instr HN7.out
  obtain ⟨A1, hA1⟩ : ∃ A : List UInt8, A = [69, 79, 82, 32] ++ (regL d) := ⟨_, rfl⟩
  have hcat1 : ∀ wx : World, (Op.stringOp .add ({ data := #[69, 79, 82] } ++ { data := #[32] } : ByteArray) (ba (regL d))).run Try.prog wx = .ok (.string (ba A1)) wx := by
    have hq : ({ data := #[69, 79, 82] } ++ { data := #[32] } : ByteArray) = ba [69, 79, 82, 32] := by kernel_rfl
    rw [hq]
    exact cat_bb (P := Try.prog) _ _ A1 hA1 (by simp; omega)
  obtain ⟨A2, hA2⟩ : ∃ A : List UInt8, A = A1 ++ [44] := ⟨_, rfl⟩
  have hcat2 : ∀ wx : World, (Op.stringOp .add (ba A1) { data := #[44] }).run Try.prog wx = .ok (.string (ba A2)) wx := cat_bb (P := Try.prog) _ _ A2 hA2 (by rw [hA1]; simp; omega)
  obtain ⟨A3, hA3⟩ : ∃ A : List UInt8, A = A2 ++ (regL n) := ⟨_, rfl⟩
  have hcat3 : ∀ wx : World, (Op.stringOp .add (ba A2) (ba (regL n))).run Try.prog wx = .ok (.string (ba A3)) wx := cat_bb (P := Try.prog) _ _ A3 hA3 (by rw [hA2]; rw [hA1]; simp; omega)
  obtain ⟨A4, hA4⟩ : ∃ A : List UInt8, A = A3 ++ [44] := ⟨_, rfl⟩
  have hcat4 : ∀ wx : World, (Op.stringOp .add (ba A3) { data := #[44] }).run Try.prog wx = .ok (.string (ba A4)) wx := cat_bb (P := Try.prog) _ _ A4 hA4 (by rw [hA3]; rw [hA2]; rw [hA1]; simp; omega)
  obtain ⟨A5, hA5⟩ : ∃ A : List UInt8, A = A4 ++ (regL m) := ⟨_, rfl⟩
  have hcat5 : ∀ wx : World, (Op.stringOp .add (ba A4) (ba (regL m))).run Try.prog wx = .ok (.string (ba A5)) wx := cat_bb (P := Try.prog) _ _ A5 hA5 (by rw [hA4]; rw [hA3]; rw [hA2]; rw [hA1]; simp; omega)
  have HX := Lib.hid (show printA 12 d n m imm kind = A5 by rw [HP.out, hA5, hA4, hA3, hA2, hA1]; unfold textA; simp [threeL, nameL])
  clear hA1 hA2 hA3 hA4 hA5
  go_wp2_with fail
  refine wp_region_held_drew (S := (fun w' => w'.cell? ⟨w.heap.size, 0, none⟩ = some (.int .i64 12) ∧ w'.cell? ⟨w.heap.size, 1, none⟩ = some (.int .i64 d) ∧ w'.cell? ⟨w.heap.size, 2, none⟩ = some (.int .i64 n) ∧ w'.cell? ⟨w.heap.size, 3, none⟩ = some (.int .i64 m) ∧ w'.cell? ⟨w.heap.size, 4, none⟩ = some (.int .i64 imm) ∧ w'.cell? ⟨w.heap.size, 5, none⟩ = some (.int .i64 kind))) (by kernel_rfl) (by (try dsimp only); exact ⟨n0, n1, n2, n3, n4, n5⟩) (fun hHeld => ?_)
  refine wpAnyH_take (i := 0) (oi := ⟨some 189, _, _, _, _, _⟩) (v := ?_) rfl (by kernel_rfl) (by kernel_rfl) (by kernel_rfl) (fun _ _ _ h => h) (Or.inl ⟨by rfl, ?_⟩) (by assumption) ?_
  rotate_left
  · (intro w hSw; (try dsimp only at hSw); go_simp; try with_reducible rfl)
  simp only [Act.put, List.setIfInBounds_toArray, List.set_cons_zero, List.set_cons_succ]
  refine wpAnyH_take (i := 1) (oi := ⟨some 190, _, _, _, _, _⟩) (v := ?_) rfl (by kernel_rfl) (by kernel_rfl) (by kernel_rfl) (fun _ _ _ h => h) (Or.inl ⟨by rfl, ?_⟩) (by assumption) ?_
  rotate_left
  · (intro w hSw; (try dsimp only at hSw); go_simp; try with_reducible rfl)
  simp only [Act.put, List.setIfInBounds_toArray, List.set_cons_zero, List.set_cons_succ]
  refine wpAnyH_take (i := 2) (oi := ⟨some 191, _, _, _, _, _⟩) (v := ?_) rfl (by kernel_rfl) (by kernel_rfl) (by kernel_rfl) (fun _ _ _ h => h) (Or.inl ⟨by rfl, ?_⟩) (by assumption) ?_
  rotate_left
  · (intro w hSw; (try dsimp only at hSw); go_simp; try with_reducible rfl)
  simp only [Act.put, List.setIfInBounds_toArray, List.set_cons_zero, List.set_cons_succ]
  refine wpAnyH_take (i := 3) (oi := ⟨some 192, _, _, _, _, _⟩) (v := ?_) rfl (by kernel_rfl) (by kernel_rfl) (by kernel_rfl) (fun _ _ _ h => h) (Or.inl ⟨by rfl, ?_⟩) (by assumption) ?_
  rotate_left
  · (intro w hSw; (try dsimp only at hSw); go_simp; try with_reducible rfl)
  simp only [Act.put, List.setIfInBounds_toArray, List.set_cons_zero, List.set_cons_succ]
  refine wpAnyH_take (i := 7) (oi := ⟨some 196, _, _, _, _, _⟩) (v := ?_) rfl (by kernel_rfl) (by kernel_rfl) (by kernel_rfl) (fun _ _ _ h => h) (Or.inl ⟨by rfl, ?_⟩) (by assumption) ?_
  rotate_left
  · (intro w hSw; (try dsimp only at hSw); go_simp; try with_reducible rfl)
  simp only [Act.put, List.setIfInBounds_toArray, List.set_cons_zero, List.set_cons_succ]
  refine wpAnyH_take (i := 8) (oi := ⟨some 197, _, _, _, _, _⟩) (v := ?_) rfl (by kernel_rfl) (by kernel_rfl) (by kernel_rfl) (fun _ _ _ h => h) (Or.inl ⟨by rfl, ?_⟩) (by assumption) ?_
  rotate_left
  · (intro w hSw; (try dsimp only at hSw); go_simp; try with_reducible rfl)
  simp only [Act.put, List.setIfInBounds_toArray, List.set_cons_zero, List.set_cons_succ]
  refine wpAnyH_take (i := 12) (oi := ⟨some 201, _, _, _, _, _⟩) (v := ?_) rfl (by kernel_rfl) (by kernel_rfl) (by kernel_rfl) (fun _ _ _ h => h) (Or.inl ⟨by rfl, ?_⟩) (by assumption) ?_
  rotate_left
  · (intro w hSw; (try dsimp only at hSw); go_simp; try with_reducible rfl)
  simp only [Act.put, List.setIfInBounds_toArray, List.set_cons_zero, List.set_cons_succ]
  refine wpAnyH_take (i := 13) (oi := ⟨some 202, _, _, _, _, _⟩) (v := ?_) rfl (by kernel_rfl) (by kernel_rfl) (by kernel_rfl) (fun _ _ _ h => h) (Or.inl ⟨by rfl, ?_⟩) (by assumption) ?_
  rotate_left
  · (intro w hSw; (try dsimp only at hSw); go_simp; try with_reducible rfl)
  simp only [Act.put, List.setIfInBounds_toArray, List.set_cons_zero, List.set_cons_succ]
  refine wpAnyH_ready (rs := [4]) (by kernel_rfl) (by simp) ?_
  refine AllReadyH.cons (o := ⟨some 193, _, _, _, _, _⟩) rfl (fun K hK => ?_) AllReadyH.nil
  go_simp
  go_at_call 16; refine (HRd.out _).mono ?_; rintro e w' ⟨rfl, md, rfl⟩
  refine hK.out _ _ (by (try dsimp only); exact ⟨n0, n1, n2, n3, n4, n5⟩) ?_
  clear hK K hHeld
  intro hHeld
  try simp only [Act.put, List.setIfInBounds_toArray, List.set_cons_zero, List.set_cons_succ]
  refine wpAnyH_take (i := 5) (oi := ⟨some 194, _, _, _, _, _⟩) (v := ?_) rfl (by kernel_rfl) (by kernel_rfl) (by kernel_rfl) (fun _ _ _ h => h) (Or.inl ⟨by rfl, ?_⟩) (by assumption) ?_
  rotate_left
  · (intro w hSw; (try dsimp only at hSw); go_simp; try with_reducible rfl)
  simp only [Act.put, List.setIfInBounds_toArray, List.set_cons_zero, List.set_cons_succ]
  refine wpAnyH_take (i := 6) (oi := ⟨some 195, _, _, _, _, _⟩) (v := ?_) rfl (by kernel_rfl) (by kernel_rfl) (by kernel_rfl) (fun _ _ _ h => h) (Or.inl ⟨by rfl, ?_⟩) (by assumption) ?_
  rotate_left
  · (intro w hSw; (try dsimp only at hSw); go_simp; try with_reducible rfl)
  simp only [Act.put, List.setIfInBounds_toArray, List.set_cons_zero, List.set_cons_succ]
  refine wpAnyH_ready (rs := [9]) (by kernel_rfl) (by simp) ?_
  refine AllReadyH.cons (o := ⟨some 198, _, _, _, _, _⟩) rfl (fun K hK => ?_) AllReadyH.nil
  go_simp
  go_at_call 16; refine (HRn.out _).mono ?_; rintro e w' ⟨rfl, mn, rfl⟩
  refine hK.out _ _ (by (try dsimp only); exact ⟨n0, n1, n2, n3, n4, n5⟩) ?_
  clear hK K hHeld
  intro hHeld
  try simp only [Act.put, List.setIfInBounds_toArray, List.set_cons_zero, List.set_cons_succ]
  refine wpAnyH_take (i := 10) (oi := ⟨some 199, _, _, _, _, _⟩) (v := ?_) rfl (by kernel_rfl) (by kernel_rfl) (by kernel_rfl) (fun _ _ _ h => h) (Or.inl ⟨by rfl, ?_⟩) (by assumption) ?_
  rotate_left
  · (intro w hSw; (try dsimp only at hSw); go_simp; try with_reducible rfl)
  simp only [Act.put, List.setIfInBounds_toArray, List.set_cons_zero, List.set_cons_succ]
  refine wpAnyH_take (i := 11) (oi := ⟨some 200, _, _, _, _, _⟩) (v := ?_) rfl (by kernel_rfl) (by kernel_rfl) (by kernel_rfl) (fun _ _ _ h => h) (Or.inl ⟨by rfl, ?_⟩) (by assumption) ?_
  rotate_left
  · (intro w hSw; (try dsimp only at hSw); go_simp; try with_reducible rfl)
  simp only [Act.put, List.setIfInBounds_toArray, List.set_cons_zero, List.set_cons_succ]
  refine wpAnyH_ready (rs := [14]) (by kernel_rfl) (by simp) ?_
  refine AllReadyH.cons (o := ⟨some 203, _, _, _, _, _⟩) rfl (fun K hK => ?_) AllReadyH.nil
  go_simp
  go_at_call 16; refine (HRm.out _).mono ?_; rintro e w' ⟨rfl, mm, rfl⟩
  refine hK.out _ _ (by (try dsimp only); exact ⟨n0, n1, n2, n3, n4, n5⟩) ?_
  clear hK K hHeld
  intro hHeld
  try simp only [Act.put, List.setIfInBounds_toArray, List.set_cons_zero, List.set_cons_succ]
  refine wpAnyH_take (i := 15) (oi := ⟨some 204, _, _, _, _, _⟩) (v := ?_) rfl (by kernel_rfl) (by kernel_rfl) (by kernel_rfl) (fun _ _ _ h => h) (Or.inl ⟨by rfl, ?_⟩) (by assumption) ?_
  rotate_left
  · (intro w hSw; (try dsimp only at hSw); go_simp; try with_reducible rfl)
  simp only [Act.put, List.setIfInBounds_toArray, List.set_cons_zero, List.set_cons_succ]
  refine wpAnyH_take (i := 16) (oi := ⟨some 2, _, _, _, _, _⟩) (v := ?_) rfl (by kernel_rfl) (by kernel_rfl) (by kernel_rfl) (fun _ _ _ h => h) (Or.inl ⟨by rfl, ?_⟩) (by assumption) ?_
  rotate_left
  · (intro w hSw; (try dsimp only at hSw); go_simp; try with_reducible rfl)
  simp only [Act.put, List.setIfInBounds_toArray, List.set_cons_zero, List.set_cons_succ]
  refine wpAnyH_done (by kernel_rfl) ?_ _
  go_wp2_with fail
  go_ret
  exact ⟨by rw [HX.out]; rfl, by repeat (first | exact HB7.out | refine below_drewN ?_ _ | refine Below.drew ?_ | refine below_alloc ?_ _)⟩
set_option maxRecDepth 100000 in
set_option maxHeartbeats 6400000 in
theorem rpr_13 (d n m imm kind : Int) (w : World) (hr : rightP 13 d n m imm kind) :
    Calls Try.prog 10 #[instrW 13 d n m imm kind] w fun e w' => e = .returned (.string (ba (printA 13 d n m imm kind))) ∧ Below w.heap.size w w' := by
  have HB := Lib.hid (below_alloc (Below.refl w.heap.size w) (.cells #[.int .i64 13, .int .i64 d, .int .i64 n, .int .i64 m, .int .i64 imm, .int .i64 kind] 23))
  have HN := Lib.hid (own_instr w 13 d n m imm kind)
  have HC := Lib.hid (right3_any 13 d n m imm kind (w.alloc (.cells #[.int .i64 13, .int .i64 d, .int .i64 n, .int .i64 m, .int .i64 imm, .int .i64 kind] 23)))
  rw [right_yes hr] at HC
  have HP := Lib.hid (show printA 13 d n m imm kind = textA 13 d n m imm kind from if_pos hr)
  obtain ⟨⟨hop, hd, hn, hm⟩, hB, hCC, hDD⟩ := hr
  have hi : I64 imm := by unfold rightB at hB; unfold rightC at hCC; constructor <;> omega
  have hneg : ¬ imm < 0 := by unfold rightB at hB; unfold rightC at hCC; omega
  have HRC := Lib.hid hCC
  have HRDD := Lib.hid hDD
  clear hB hCC hDD
  have HII := Lib.hid (fun w1 => rint_any imm w1 hi)
  have HRd := Lib.hid (fun w1 => rreg_any d w1 (by omega))
  have HRn := Lib.hid (fun w1 => rreg_any n w1 (by omega))
  have HRm := Lib.hid (fun w1 => rreg_any m w1 (by omega))
  have bI := intL_len imm hi
  have bD := regL_len d (by constructor <;> omega)
  have bN := regL_len n (by constructor <;> omega)
  have bM := regL_len m (by constructor <;> omega)
  obtain ⟨I, hI⟩ : ∃ I : List UInt8, I = [35] ++ intL imm := ⟨_, rfl⟩
  have hcatI : ∀ wx : World, (Op.stringOp .add { data := #[35] } (ba (intL imm))).run Try.prog wx = .ok (.string (ba I)) wx := cat_bb (P := Try.prog) [35] _ I hI (by simp; omega)
  obtain ⟨TP, hTP⟩ : ∃ I : List UInt8, I = [46, 43] ++ intL imm := ⟨_, rfl⟩
  have hcatP : ∀ wx : World, (Op.stringOp .add { data := #[46, 43] } (ba (intL imm))).run Try.prog wx = .ok (.string (ba TP)) wx := cat_bb (P := Try.prog) [46, 43] _ TP hTP (by simp; omega)
  obtain ⟨TN, hTN⟩ : ∃ I : List UInt8, I = [46] ++ intL imm := ⟨_, rfl⟩
  have hcatN : ∀ wx : World, (Op.stringOp .add { data := #[46] } (ba (intL imm))).run Try.prog wx = .ok (.string (ba TN)) wx := cat_bb (P := Try.prog) [46] _ TN hTN (by simp; omega)
  have bII : I.length ≤ 66 := by rw [hI]; simp; omega
  have bTP : TP.length ≤ 67 := by rw [hTP]; simp; omega
  have bTN : TN.length ≤ 67 := by rw [hTN]; simp; omega
  have HIM := Lib.hid (show immL imm = I from hI.symm)
  have HTP := Lib.hid (fun (h : ¬ imm < 0) => show targetL imm = TP by unfold targetL; rw [if_neg h, hTP])
  have HTN := Lib.hid (fun (h : imm < 0) => show targetL imm = TN by unfold targetL; rw [if_pos h, hTN])
  clear hI hTP hTN
  go_enter Try.func10, Try.ntmps10
  go_wp2_with fail
  refine (HC.out).mono ?_
  rintro e w2 ⟨rfl, hb⟩
  have HB2 := Lib.hid (below_trans HB.out hb)
  have hlt := (HN.out.below hb).lt
  have HN2 := Lib.hid (HN.out.below hb)
  obtain ⟨n0, n1, n2, n3, n4, n5⟩ := blk_instr HN2.out
  clear hb HN HB HC
  go_wp2_with fail
  refine (HII.out _).mono ?_
  rintro e w' ⟨rfl, m1, rfl⟩
  go_wp2_with fail
  refine (HII.out _).mono ?_
  rintro e w' ⟨rfl, m2, rfl⟩
  clear HTP HTN
  go_wp2_with fail
  refine (rname_13 _).mono ?_
  rintro e w7 ⟨rfl, hb⟩
  have HB7 := Lib.hid (below_trans (below_drewN HB2.out _) hb)
  have HN7 := Lib.hid ((HN2.out.dn _).below hb)
  have hlt7 := HN7.out.lt
  clear hb n0 n1 n2 n3 n4 n5 hlt HB2 HN2
  obtain ⟨n0, n1, n2, n3, n4, n5⟩ := blk_instr HN7.out
  by_cases h31 : d = 31
  · subst h31
    obtain ⟨A1, hA1⟩ : ∃ A : List UInt8, A = [67, 77, 80, 32] ++ (regL n) := ⟨_, rfl⟩
    have hcat1 : ∀ wx : World, (Op.stringOp .add ({ data := #[67, 77, 80, 32] } : ByteArray) (ba (regL n))).run Try.prog wx = .ok (.string (ba A1)) wx := cat_bb (P := Try.prog) _ _ A1 hA1 (by simp; omega)
    obtain ⟨A2, hA2⟩ : ∃ A : List UInt8, A = A1 ++ [44] := ⟨_, rfl⟩
    have hcat2 : ∀ wx : World, (Op.stringOp .add (ba A1) { data := #[44] }).run Try.prog wx = .ok (.string (ba A2)) wx := cat_bb (P := Try.prog) _ _ A2 hA2 (by rw [hA1]; simp; omega)
    obtain ⟨A3, hA3⟩ : ∃ A : List UInt8, A = A2 ++ (regL m) := ⟨_, rfl⟩
    have hcat3 : ∀ wx : World, (Op.stringOp .add (ba A2) (ba (regL m))).run Try.prog wx = .ok (.string (ba A3)) wx := cat_bb (P := Try.prog) _ _ A3 hA3 (by rw [hA2]; rw [hA1]; simp; omega)
    have HX := Lib.hid (show printA 13 31 n m imm kind = A3 by rw [HP.out, hA3, hA2, hA1]; unfold textA; rfl)
    clear hA1 hA2 hA3
    go_wp2_with fail
    refine wp_region_held_drew (S := (fun w' => w'.cell? ⟨w.heap.size, 0, none⟩ = some (.int .i64 13) ∧ w'.cell? ⟨w.heap.size, 1, none⟩ = some (.int .i64 31) ∧ w'.cell? ⟨w.heap.size, 2, none⟩ = some (.int .i64 n) ∧ w'.cell? ⟨w.heap.size, 3, none⟩ = some (.int .i64 m) ∧ w'.cell? ⟨w.heap.size, 4, none⟩ = some (.int .i64 imm) ∧ w'.cell? ⟨w.heap.size, 5, none⟩ = some (.int .i64 kind))) (by kernel_rfl) (by (try dsimp only); exact ⟨n0, n1, n2, n3, n4, n5⟩) (fun hHeld => ?_)
    refine wpAnyH_take (i := 0) (oi := ⟨some 180, _, _, _, _, _⟩) (v := ?_) rfl (by kernel_rfl) (by kernel_rfl) (by kernel_rfl) (fun _ _ _ h => h) (Or.inl ⟨by rfl, ?_⟩) (by assumption) ?_
    rotate_left
    · (intro w hSw; (try dsimp only at hSw); go_simp; try with_reducible rfl)
    simp only [Act.put, List.setIfInBounds_toArray, List.set_cons_zero, List.set_cons_succ]
    refine wpAnyH_take (i := 1) (oi := ⟨some 181, _, _, _, _, _⟩) (v := ?_) rfl (by kernel_rfl) (by kernel_rfl) (by kernel_rfl) (fun _ _ _ h => h) (Or.inl ⟨by rfl, ?_⟩) (by assumption) ?_
    rotate_left
    · (intro w hSw; (try dsimp only at hSw); go_simp; try with_reducible rfl)
    simp only [Act.put, List.setIfInBounds_toArray, List.set_cons_zero, List.set_cons_succ]
    refine wpAnyH_take (i := 5) (oi := ⟨some 185, _, _, _, _, _⟩) (v := ?_) rfl (by kernel_rfl) (by kernel_rfl) (by kernel_rfl) (fun _ _ _ h => h) (Or.inl ⟨by rfl, ?_⟩) (by assumption) ?_
    rotate_left
    · (intro w hSw; (try dsimp only at hSw); go_simp; try with_reducible rfl)
    simp only [Act.put, List.setIfInBounds_toArray, List.set_cons_zero, List.set_cons_succ]
    refine wpAnyH_take (i := 6) (oi := ⟨some 186, _, _, _, _, _⟩) (v := ?_) rfl (by kernel_rfl) (by kernel_rfl) (by kernel_rfl) (fun _ _ _ h => h) (Or.inl ⟨by rfl, ?_⟩) (by assumption) ?_
    rotate_left
    · (intro w hSw; (try dsimp only at hSw); go_simp; try with_reducible rfl)
    simp only [Act.put, List.setIfInBounds_toArray, List.set_cons_zero, List.set_cons_succ]
    refine wpAnyH_ready (rs := [2]) (by kernel_rfl) (by simp) ?_
    refine AllReadyH.cons (o := ⟨some 182, _, _, _, _, _⟩) rfl (fun K hK => ?_) AllReadyH.nil
    go_simp
    go_at_call 16; refine (HRn.out _).mono ?_; rintro e w' ⟨rfl, mn, rfl⟩
    refine hK.out _ _ (by (try dsimp only); exact ⟨n0, n1, n2, n3, n4, n5⟩) ?_
    clear hK K hHeld
    intro hHeld
    try simp only [Act.put, List.setIfInBounds_toArray, List.set_cons_zero, List.set_cons_succ]
    refine wpAnyH_take (i := 3) (oi := ⟨some 183, _, _, _, _, _⟩) (v := ?_) rfl (by kernel_rfl) (by kernel_rfl) (by kernel_rfl) (fun _ _ _ h => h) (Or.inl ⟨by rfl, ?_⟩) (by assumption) ?_
    rotate_left
    · (intro w hSw; (try dsimp only at hSw); go_simp; try with_reducible rfl)
    simp only [Act.put, List.setIfInBounds_toArray, List.set_cons_zero, List.set_cons_succ]
    refine wpAnyH_take (i := 4) (oi := ⟨some 184, _, _, _, _, _⟩) (v := ?_) rfl (by kernel_rfl) (by kernel_rfl) (by kernel_rfl) (fun _ _ _ h => h) (Or.inl ⟨by rfl, ?_⟩) (by assumption) ?_
    rotate_left
    · (intro w hSw; (try dsimp only at hSw); go_simp; try with_reducible rfl)
    simp only [Act.put, List.setIfInBounds_toArray, List.set_cons_zero, List.set_cons_succ]
    refine wpAnyH_ready (rs := [7]) (by kernel_rfl) (by simp) ?_
    refine AllReadyH.cons (o := ⟨some 187, _, _, _, _, _⟩) rfl (fun K hK => ?_) AllReadyH.nil
    go_simp
    go_at_call 16; refine (HRm.out _).mono ?_; rintro e w' ⟨rfl, mm, rfl⟩
    refine hK.out _ _ (by (try dsimp only); exact ⟨n0, n1, n2, n3, n4, n5⟩) ?_
    clear hK K hHeld
    intro hHeld
    try simp only [Act.put, List.setIfInBounds_toArray, List.set_cons_zero, List.set_cons_succ]
    refine wpAnyH_take (i := 8) (oi := ⟨some 188, _, _, _, _, _⟩) (v := ?_) rfl (by kernel_rfl) (by kernel_rfl) (by kernel_rfl) (fun _ _ _ h => h) (Or.inl ⟨by rfl, ?_⟩) (by assumption) ?_
    rotate_left
    · (intro w hSw; (try dsimp only at hSw); go_simp; try with_reducible rfl)
    simp only [Act.put, List.setIfInBounds_toArray, List.set_cons_zero, List.set_cons_succ]
    refine wpAnyH_take (i := 9) (oi := ⟨some 2, _, _, _, _, _⟩) (v := ?_) rfl (by kernel_rfl) (by kernel_rfl) (by kernel_rfl) (fun _ _ _ h => h) (Or.inl ⟨by rfl, ?_⟩) (by assumption) ?_
    rotate_left
    · (intro w hSw; (try dsimp only at hSw); go_simp; try with_reducible rfl)
    simp only [Act.put, List.setIfInBounds_toArray, List.set_cons_zero, List.set_cons_succ]
    refine wpAnyH_done (by kernel_rfl) ?_ _
    go_wp2_with fail
    go_ret
    exact ⟨by rw [HX.out]; rfl, by repeat (first | exact HB7.out | refine below_drewN ?_ _ | refine Below.drew ?_ | refine below_alloc ?_ _)⟩
  · have h31b : (d == 31) = false := beq_eq_false_iff_ne.2 h31
    obtain ⟨A1, hA1⟩ : ∃ A : List UInt8, A = [83, 85, 66, 83, 32] ++ (regL d) := ⟨_, rfl⟩
    have hcat1 : ∀ wx : World, (Op.stringOp .add ({ data := #[83, 85, 66, 83] } ++ { data := #[32] } : ByteArray) (ba (regL d))).run Try.prog wx = .ok (.string (ba A1)) wx := by
      have hq : ({ data := #[83, 85, 66, 83] } ++ { data := #[32] } : ByteArray) = ba [83, 85, 66, 83, 32] := by kernel_rfl
      rw [hq]
      exact cat_bb (P := Try.prog) _ _ A1 hA1 (by simp; omega)
    obtain ⟨A2, hA2⟩ : ∃ A : List UInt8, A = A1 ++ [44] := ⟨_, rfl⟩
    have hcat2 : ∀ wx : World, (Op.stringOp .add (ba A1) { data := #[44] }).run Try.prog wx = .ok (.string (ba A2)) wx := cat_bb (P := Try.prog) _ _ A2 hA2 (by rw [hA1]; simp; omega)
    obtain ⟨A3, hA3⟩ : ∃ A : List UInt8, A = A2 ++ (regL n) := ⟨_, rfl⟩
    have hcat3 : ∀ wx : World, (Op.stringOp .add (ba A2) (ba (regL n))).run Try.prog wx = .ok (.string (ba A3)) wx := cat_bb (P := Try.prog) _ _ A3 hA3 (by rw [hA2]; rw [hA1]; simp; omega)
    obtain ⟨A4, hA4⟩ : ∃ A : List UInt8, A = A3 ++ [44] := ⟨_, rfl⟩
    have hcat4 : ∀ wx : World, (Op.stringOp .add (ba A3) { data := #[44] }).run Try.prog wx = .ok (.string (ba A4)) wx := cat_bb (P := Try.prog) _ _ A4 hA4 (by rw [hA3]; rw [hA2]; rw [hA1]; simp; omega)
    obtain ⟨A5, hA5⟩ : ∃ A : List UInt8, A = A4 ++ (regL m) := ⟨_, rfl⟩
    have hcat5 : ∀ wx : World, (Op.stringOp .add (ba A4) (ba (regL m))).run Try.prog wx = .ok (.string (ba A5)) wx := cat_bb (P := Try.prog) _ _ A5 hA5 (by rw [hA4]; rw [hA3]; rw [hA2]; rw [hA1]; simp; omega)
    have HX := Lib.hid (show printA 13 d n m imm kind = A5 by rw [HP.out, hA5, hA4, hA3, hA2, hA1]; unfold textA; simp [threeL, nameL, h31])
    clear hA1 hA2 hA3 hA4 hA5
    go_wp2_with fail
    refine wp_region_held_drew (S := (fun w' => w'.cell? ⟨w.heap.size, 0, none⟩ = some (.int .i64 13) ∧ w'.cell? ⟨w.heap.size, 1, none⟩ = some (.int .i64 d) ∧ w'.cell? ⟨w.heap.size, 2, none⟩ = some (.int .i64 n) ∧ w'.cell? ⟨w.heap.size, 3, none⟩ = some (.int .i64 m) ∧ w'.cell? ⟨w.heap.size, 4, none⟩ = some (.int .i64 imm) ∧ w'.cell? ⟨w.heap.size, 5, none⟩ = some (.int .i64 kind))) (by kernel_rfl) (by (try dsimp only); exact ⟨n0, n1, n2, n3, n4, n5⟩) (fun hHeld => ?_)
    refine wpAnyH_take (i := 0) (oi := ⟨some 189, _, _, _, _, _⟩) (v := ?_) rfl (by kernel_rfl) (by kernel_rfl) (by kernel_rfl) (fun _ _ _ h => h) (Or.inl ⟨by rfl, ?_⟩) (by assumption) ?_
    rotate_left
    · (intro w hSw; (try dsimp only at hSw); go_simp; try with_reducible rfl)
    simp only [Act.put, List.setIfInBounds_toArray, List.set_cons_zero, List.set_cons_succ]
    refine wpAnyH_take (i := 1) (oi := ⟨some 190, _, _, _, _, _⟩) (v := ?_) rfl (by kernel_rfl) (by kernel_rfl) (by kernel_rfl) (fun _ _ _ h => h) (Or.inl ⟨by rfl, ?_⟩) (by assumption) ?_
    rotate_left
    · (intro w hSw; (try dsimp only at hSw); go_simp; try with_reducible rfl)
    simp only [Act.put, List.setIfInBounds_toArray, List.set_cons_zero, List.set_cons_succ]
    refine wpAnyH_take (i := 2) (oi := ⟨some 191, _, _, _, _, _⟩) (v := ?_) rfl (by kernel_rfl) (by kernel_rfl) (by kernel_rfl) (fun _ _ _ h => h) (Or.inl ⟨by rfl, ?_⟩) (by assumption) ?_
    rotate_left
    · (intro w hSw; (try dsimp only at hSw); go_simp; try with_reducible rfl)
    simp only [Act.put, List.setIfInBounds_toArray, List.set_cons_zero, List.set_cons_succ]
    refine wpAnyH_take (i := 3) (oi := ⟨some 192, _, _, _, _, _⟩) (v := ?_) rfl (by kernel_rfl) (by kernel_rfl) (by kernel_rfl) (fun _ _ _ h => h) (Or.inl ⟨by rfl, ?_⟩) (by assumption) ?_
    rotate_left
    · (intro w hSw; (try dsimp only at hSw); go_simp; try with_reducible rfl)
    simp only [Act.put, List.setIfInBounds_toArray, List.set_cons_zero, List.set_cons_succ]
    refine wpAnyH_take (i := 7) (oi := ⟨some 196, _, _, _, _, _⟩) (v := ?_) rfl (by kernel_rfl) (by kernel_rfl) (by kernel_rfl) (fun _ _ _ h => h) (Or.inl ⟨by rfl, ?_⟩) (by assumption) ?_
    rotate_left
    · (intro w hSw; (try dsimp only at hSw); go_simp; try with_reducible rfl)
    simp only [Act.put, List.setIfInBounds_toArray, List.set_cons_zero, List.set_cons_succ]
    refine wpAnyH_take (i := 8) (oi := ⟨some 197, _, _, _, _, _⟩) (v := ?_) rfl (by kernel_rfl) (by kernel_rfl) (by kernel_rfl) (fun _ _ _ h => h) (Or.inl ⟨by rfl, ?_⟩) (by assumption) ?_
    rotate_left
    · (intro w hSw; (try dsimp only at hSw); go_simp; try with_reducible rfl)
    simp only [Act.put, List.setIfInBounds_toArray, List.set_cons_zero, List.set_cons_succ]
    refine wpAnyH_take (i := 12) (oi := ⟨some 201, _, _, _, _, _⟩) (v := ?_) rfl (by kernel_rfl) (by kernel_rfl) (by kernel_rfl) (fun _ _ _ h => h) (Or.inl ⟨by rfl, ?_⟩) (by assumption) ?_
    rotate_left
    · (intro w hSw; (try dsimp only at hSw); go_simp; try with_reducible rfl)
    simp only [Act.put, List.setIfInBounds_toArray, List.set_cons_zero, List.set_cons_succ]
    refine wpAnyH_take (i := 13) (oi := ⟨some 202, _, _, _, _, _⟩) (v := ?_) rfl (by kernel_rfl) (by kernel_rfl) (by kernel_rfl) (fun _ _ _ h => h) (Or.inl ⟨by rfl, ?_⟩) (by assumption) ?_
    rotate_left
    · (intro w hSw; (try dsimp only at hSw); go_simp; try with_reducible rfl)
    simp only [Act.put, List.setIfInBounds_toArray, List.set_cons_zero, List.set_cons_succ]
    refine wpAnyH_ready (rs := [4]) (by kernel_rfl) (by simp) ?_
    refine AllReadyH.cons (o := ⟨some 193, _, _, _, _, _⟩) rfl (fun K hK => ?_) AllReadyH.nil
    go_simp
    go_at_call 16; refine (HRd.out _).mono ?_; rintro e w' ⟨rfl, md, rfl⟩
    refine hK.out _ _ (by (try dsimp only); exact ⟨n0, n1, n2, n3, n4, n5⟩) ?_
    clear hK K hHeld
    intro hHeld
    try simp only [Act.put, List.setIfInBounds_toArray, List.set_cons_zero, List.set_cons_succ]
    refine wpAnyH_take (i := 5) (oi := ⟨some 194, _, _, _, _, _⟩) (v := ?_) rfl (by kernel_rfl) (by kernel_rfl) (by kernel_rfl) (fun _ _ _ h => h) (Or.inl ⟨by rfl, ?_⟩) (by assumption) ?_
    rotate_left
    · (intro w hSw; (try dsimp only at hSw); go_simp; try with_reducible rfl)
    simp only [Act.put, List.setIfInBounds_toArray, List.set_cons_zero, List.set_cons_succ]
    refine wpAnyH_take (i := 6) (oi := ⟨some 195, _, _, _, _, _⟩) (v := ?_) rfl (by kernel_rfl) (by kernel_rfl) (by kernel_rfl) (fun _ _ _ h => h) (Or.inl ⟨by rfl, ?_⟩) (by assumption) ?_
    rotate_left
    · (intro w hSw; (try dsimp only at hSw); go_simp; try with_reducible rfl)
    simp only [Act.put, List.setIfInBounds_toArray, List.set_cons_zero, List.set_cons_succ]
    refine wpAnyH_ready (rs := [9]) (by kernel_rfl) (by simp) ?_
    refine AllReadyH.cons (o := ⟨some 198, _, _, _, _, _⟩) rfl (fun K hK => ?_) AllReadyH.nil
    go_simp
    go_at_call 16; refine (HRn.out _).mono ?_; rintro e w' ⟨rfl, mn, rfl⟩
    refine hK.out _ _ (by (try dsimp only); exact ⟨n0, n1, n2, n3, n4, n5⟩) ?_
    clear hK K hHeld
    intro hHeld
    try simp only [Act.put, List.setIfInBounds_toArray, List.set_cons_zero, List.set_cons_succ]
    refine wpAnyH_take (i := 10) (oi := ⟨some 199, _, _, _, _, _⟩) (v := ?_) rfl (by kernel_rfl) (by kernel_rfl) (by kernel_rfl) (fun _ _ _ h => h) (Or.inl ⟨by rfl, ?_⟩) (by assumption) ?_
    rotate_left
    · (intro w hSw; (try dsimp only at hSw); go_simp; try with_reducible rfl)
    simp only [Act.put, List.setIfInBounds_toArray, List.set_cons_zero, List.set_cons_succ]
    refine wpAnyH_take (i := 11) (oi := ⟨some 200, _, _, _, _, _⟩) (v := ?_) rfl (by kernel_rfl) (by kernel_rfl) (by kernel_rfl) (fun _ _ _ h => h) (Or.inl ⟨by rfl, ?_⟩) (by assumption) ?_
    rotate_left
    · (intro w hSw; (try dsimp only at hSw); go_simp; try with_reducible rfl)
    simp only [Act.put, List.setIfInBounds_toArray, List.set_cons_zero, List.set_cons_succ]
    refine wpAnyH_ready (rs := [14]) (by kernel_rfl) (by simp) ?_
    refine AllReadyH.cons (o := ⟨some 203, _, _, _, _, _⟩) rfl (fun K hK => ?_) AllReadyH.nil
    go_simp
    go_at_call 16; refine (HRm.out _).mono ?_; rintro e w' ⟨rfl, mm, rfl⟩
    refine hK.out _ _ (by (try dsimp only); exact ⟨n0, n1, n2, n3, n4, n5⟩) ?_
    clear hK K hHeld
    intro hHeld
    try simp only [Act.put, List.setIfInBounds_toArray, List.set_cons_zero, List.set_cons_succ]
    refine wpAnyH_take (i := 15) (oi := ⟨some 204, _, _, _, _, _⟩) (v := ?_) rfl (by kernel_rfl) (by kernel_rfl) (by kernel_rfl) (fun _ _ _ h => h) (Or.inl ⟨by rfl, ?_⟩) (by assumption) ?_
    rotate_left
    · (intro w hSw; (try dsimp only at hSw); go_simp; try with_reducible rfl)
    simp only [Act.put, List.setIfInBounds_toArray, List.set_cons_zero, List.set_cons_succ]
    refine wpAnyH_take (i := 16) (oi := ⟨some 2, _, _, _, _, _⟩) (v := ?_) rfl (by kernel_rfl) (by kernel_rfl) (by kernel_rfl) (fun _ _ _ h => h) (Or.inl ⟨by rfl, ?_⟩) (by assumption) ?_
    rotate_left
    · (intro w hSw; (try dsimp only at hSw); go_simp; try with_reducible rfl)
    simp only [Act.put, List.setIfInBounds_toArray, List.set_cons_zero, List.set_cons_succ]
    refine wpAnyH_done (by kernel_rfl) ?_ _
    go_wp2_with fail
    go_ret
    exact ⟨by rw [HX.out]; rfl, by repeat (first | exact HB7.out | refine below_drewN ?_ _ | refine Below.drew ?_ | refine below_alloc ?_ _)⟩
set_option maxRecDepth 100000 in
set_option maxHeartbeats 6400000 in
theorem rpr_14 (d n m imm kind : Int) (w : World) (hr : rightP 14 d n m imm kind) :
    Calls Try.prog 10 #[instrW 14 d n m imm kind] w fun e w' => e = .returned (.string (ba (printA 14 d n m imm kind))) ∧ Below w.heap.size w w' := by
  have HB := Lib.hid (below_alloc (Below.refl w.heap.size w) (.cells #[.int .i64 14, .int .i64 d, .int .i64 n, .int .i64 m, .int .i64 imm, .int .i64 kind] 23))
  have HN := Lib.hid (own_instr w 14 d n m imm kind)
  have HC := Lib.hid (right3_any 14 d n m imm kind (w.alloc (.cells #[.int .i64 14, .int .i64 d, .int .i64 n, .int .i64 m, .int .i64 imm, .int .i64 kind] 23)))
  rw [right_yes hr] at HC
  have HP := Lib.hid (show printA 14 d n m imm kind = textA 14 d n m imm kind from if_pos hr)
  obtain ⟨⟨hop, hd, hn, hm⟩, hB, hCC, hDD⟩ := hr
  have hi : I64 imm := by unfold rightB at hB; unfold rightC at hCC; constructor <;> omega
  have HRC := Lib.hid hCC
  have HRDD := Lib.hid hDD
  clear hB hCC hDD
  have HII := Lib.hid (fun w1 => rint_any imm w1 hi)
  have HRd := Lib.hid (fun w1 => rreg_any d w1 (by omega))
  have HRn := Lib.hid (fun w1 => rreg_any n w1 (by omega))
  have HRm := Lib.hid (fun w1 => rreg_any m w1 (by omega))
  have bI := intL_len imm hi
  have bD := regL_len d (by constructor <;> omega)
  have bN := regL_len n (by constructor <;> omega)
  have bM := regL_len m (by constructor <;> omega)
  obtain ⟨I, hI⟩ : ∃ I : List UInt8, I = [35] ++ intL imm := ⟨_, rfl⟩
  have hcatI : ∀ wx : World, (Op.stringOp .add { data := #[35] } (ba (intL imm))).run Try.prog wx = .ok (.string (ba I)) wx := cat_bb (P := Try.prog) [35] _ I hI (by simp; omega)
  obtain ⟨TP, hTP⟩ : ∃ I : List UInt8, I = [46, 43] ++ intL imm := ⟨_, rfl⟩
  have hcatP : ∀ wx : World, (Op.stringOp .add { data := #[46, 43] } (ba (intL imm))).run Try.prog wx = .ok (.string (ba TP)) wx := cat_bb (P := Try.prog) [46, 43] _ TP hTP (by simp; omega)
  obtain ⟨TN, hTN⟩ : ∃ I : List UInt8, I = [46] ++ intL imm := ⟨_, rfl⟩
  have hcatN : ∀ wx : World, (Op.stringOp .add { data := #[46] } (ba (intL imm))).run Try.prog wx = .ok (.string (ba TN)) wx := cat_bb (P := Try.prog) [46] _ TN hTN (by simp; omega)
  have bII : I.length ≤ 66 := by rw [hI]; simp; omega
  have bTP : TP.length ≤ 67 := by rw [hTP]; simp; omega
  have bTN : TN.length ≤ 67 := by rw [hTN]; simp; omega
  have HIM := Lib.hid (show immL imm = I from hI.symm)
  have HTP := Lib.hid (fun (h : ¬ imm < 0) => show targetL imm = TP by unfold targetL; rw [if_neg h, hTP])
  have HTN := Lib.hid (fun (h : imm < 0) => show targetL imm = TN by unfold targetL; rw [if_pos h, hTN])
  clear hI hTP hTN
  go_enter Try.func10, Try.ntmps10
  go_wp2_with fail
  refine (HC.out).mono ?_
  rintro e w2 ⟨rfl, hb⟩
  have HB2 := Lib.hid (below_trans HB.out hb)
  have hlt := (HN.out.below hb).lt
  have HN2 := Lib.hid (HN.out.below hb)
  obtain ⟨n0, n1, n2, n3, n4, n5⟩ := blk_instr HN2.out
  clear hb HN HB HC
  go_wp2_with fail
  refine (HII.out _).mono ?_
  rintro e w' ⟨rfl, m1, rfl⟩
  go_wp2_with fail
  refine (HII.out _).mono ?_
  rintro e w' ⟨rfl, m2, rfl⟩
  by_cases hneg : imm < 0
  · have HTG := Lib.hid (HTN.out (by omega))
    go_wp2_with fail
    refine (HII.out _).mono ?_
    rintro e w' ⟨rfl, m3, rfl⟩
    clear HTP HTN hcatP
    obtain ⟨TG, rfl⟩ : ∃ T, T = TN := ⟨_, rfl⟩
    go_wp2_with fail
    refine (rname_14 _).mono ?_
    rintro e w7 ⟨rfl, hb⟩
    have HB7 := Lib.hid (below_trans (below_drewN HB2.out _) hb)
    have HN7 := Lib.hid ((HN2.out.dn _).below hb)
    have hlt7 := HN7.out.lt
    clear hb n0 n1 n2 n3 n4 n5 hlt HB2 HN2
    obtain ⟨n0, n1, n2, n3, n4, n5⟩ := blk_instr HN7.out
    obtain ⟨A1, hA1⟩ : ∃ A : List UInt8, A = [66, 32] ++ TG := ⟨_, rfl⟩
    have hcat1 : ∀ wx : World, (Op.stringOp .add ({ data := #[66] } ++ { data := #[32] } : ByteArray) (ba TG)).run Try.prog wx = .ok (.string (ba A1)) wx := by
      have hq : ({ data := #[66] } ++ { data := #[32] } : ByteArray) = ba [66, 32] := by kernel_rfl
      rw [hq]
      exact cat_bb (P := Try.prog) _ _ A1 hA1 (by simp; omega)
    have HX := Lib.hid (show printA 14 d n m imm kind = A1 by rw [HP.out, hA1]; unfold textA; simp [HTG.out])
    clear hA1
    go_wp2_with fail
    go_ret
    exact ⟨by rw [HX.out]; rfl, by repeat (first | exact HB7.out | refine below_drewN ?_ _ | refine Below.drew ?_ | refine below_alloc ?_ _)⟩
  · have HTG := Lib.hid (HTP.out (by omega))
    clear HTP HTN hcatN
    obtain ⟨TG, rfl⟩ : ∃ T, T = TP := ⟨_, rfl⟩
    go_wp2_with fail
    refine (rname_14 _).mono ?_
    rintro e w7 ⟨rfl, hb⟩
    have HB7 := Lib.hid (below_trans (below_drewN HB2.out _) hb)
    have HN7 := Lib.hid ((HN2.out.dn _).below hb)
    have hlt7 := HN7.out.lt
    clear hb n0 n1 n2 n3 n4 n5 hlt HB2 HN2
    obtain ⟨n0, n1, n2, n3, n4, n5⟩ := blk_instr HN7.out
    obtain ⟨A1, hA1⟩ : ∃ A : List UInt8, A = [66, 32] ++ TG := ⟨_, rfl⟩
    have hcat1 : ∀ wx : World, (Op.stringOp .add ({ data := #[66] } ++ { data := #[32] } : ByteArray) (ba TG)).run Try.prog wx = .ok (.string (ba A1)) wx := by
      have hq : ({ data := #[66] } ++ { data := #[32] } : ByteArray) = ba [66, 32] := by kernel_rfl
      rw [hq]
      exact cat_bb (P := Try.prog) _ _ A1 hA1 (by simp; omega)
    have HX := Lib.hid (show printA 14 d n m imm kind = A1 by rw [HP.out, hA1]; unfold textA; simp [HTG.out])
    clear hA1
    go_wp2_with fail
    go_ret
    exact ⟨by rw [HX.out]; rfl, by repeat (first | exact HB7.out | refine below_drewN ?_ _ | refine Below.drew ?_ | refine below_alloc ?_ _)⟩
set_option maxRecDepth 100000 in
set_option maxHeartbeats 6400000 in
theorem rpr_15 (d n m imm kind : Int) (w : World) (hr : rightP 15 d n m imm kind) :
    Calls Try.prog 10 #[instrW 15 d n m imm kind] w fun e w' => e = .returned (.string (ba (printA 15 d n m imm kind))) ∧ Below w.heap.size w w' := by
  have HB := Lib.hid (below_alloc (Below.refl w.heap.size w) (.cells #[.int .i64 15, .int .i64 d, .int .i64 n, .int .i64 m, .int .i64 imm, .int .i64 kind] 23))
  have HN := Lib.hid (own_instr w 15 d n m imm kind)
  have HC := Lib.hid (right3_any 15 d n m imm kind (w.alloc (.cells #[.int .i64 15, .int .i64 d, .int .i64 n, .int .i64 m, .int .i64 imm, .int .i64 kind] 23)))
  rw [right_yes hr] at HC
  have HP := Lib.hid (show printA 15 d n m imm kind = textA 15 d n m imm kind from if_pos hr)
  obtain ⟨⟨hop, hd, hn, hm⟩, hB, hCC, hDD⟩ := hr
  have hi : I64 imm := by unfold rightB at hB; unfold rightC at hCC; constructor <;> omega
  have HRC := Lib.hid hCC
  have HRDD := Lib.hid hDD
  clear hB hCC hDD
  have HII := Lib.hid (fun w1 => rint_any imm w1 hi)
  have HRd := Lib.hid (fun w1 => rreg_any d w1 (by omega))
  have HRn := Lib.hid (fun w1 => rreg_any n w1 (by omega))
  have HRm := Lib.hid (fun w1 => rreg_any m w1 (by omega))
  have bI := intL_len imm hi
  have bD := regL_len d (by constructor <;> omega)
  have bN := regL_len n (by constructor <;> omega)
  have bM := regL_len m (by constructor <;> omega)
  obtain ⟨I, hI⟩ : ∃ I : List UInt8, I = [35] ++ intL imm := ⟨_, rfl⟩
  have hcatI : ∀ wx : World, (Op.stringOp .add { data := #[35] } (ba (intL imm))).run Try.prog wx = .ok (.string (ba I)) wx := cat_bb (P := Try.prog) [35] _ I hI (by simp; omega)
  obtain ⟨TP, hTP⟩ : ∃ I : List UInt8, I = [46, 43] ++ intL imm := ⟨_, rfl⟩
  have hcatP : ∀ wx : World, (Op.stringOp .add { data := #[46, 43] } (ba (intL imm))).run Try.prog wx = .ok (.string (ba TP)) wx := cat_bb (P := Try.prog) [46, 43] _ TP hTP (by simp; omega)
  obtain ⟨TN, hTN⟩ : ∃ I : List UInt8, I = [46] ++ intL imm := ⟨_, rfl⟩
  have hcatN : ∀ wx : World, (Op.stringOp .add { data := #[46] } (ba (intL imm))).run Try.prog wx = .ok (.string (ba TN)) wx := cat_bb (P := Try.prog) [46] _ TN hTN (by simp; omega)
  have bII : I.length ≤ 66 := by rw [hI]; simp; omega
  have bTP : TP.length ≤ 67 := by rw [hTP]; simp; omega
  have bTN : TN.length ≤ 67 := by rw [hTN]; simp; omega
  have HIM := Lib.hid (show immL imm = I from hI.symm)
  have HTP := Lib.hid (fun (h : ¬ imm < 0) => show targetL imm = TP by unfold targetL; rw [if_neg h, hTP])
  have HTN := Lib.hid (fun (h : imm < 0) => show targetL imm = TN by unfold targetL; rw [if_pos h, hTN])
  clear hI hTP hTN
  go_enter Try.func10, Try.ntmps10
  go_wp2_with fail
  refine (HC.out).mono ?_
  rintro e w2 ⟨rfl, hb⟩
  have HB2 := Lib.hid (below_trans HB.out hb)
  have hlt := (HN.out.below hb).lt
  have HN2 := Lib.hid (HN.out.below hb)
  obtain ⟨n0, n1, n2, n3, n4, n5⟩ := blk_instr HN2.out
  clear hb HN HB HC
  go_wp2_with fail
  refine (HII.out _).mono ?_
  rintro e w' ⟨rfl, m1, rfl⟩
  go_wp2_with fail
  refine (HII.out _).mono ?_
  rintro e w' ⟨rfl, m2, rfl⟩
  by_cases hneg : imm < 0
  · have HTG := Lib.hid (HTN.out (by omega))
    go_wp2_with fail
    refine (HII.out _).mono ?_
    rintro e w' ⟨rfl, m3, rfl⟩
    clear HTP HTN hcatP
    obtain ⟨TG, rfl⟩ : ∃ T, T = TN := ⟨_, rfl⟩
    go_wp2_with fail
    refine (rname_15 _).mono ?_
    rintro e w7 ⟨rfl, hb⟩
    have HB7 := Lib.hid (below_trans (below_drewN HB2.out _) hb)
    have HN7 := Lib.hid ((HN2.out.dn _).below hb)
    have hlt7 := HN7.out.lt
    clear hb n0 n1 n2 n3 n4 n5 hlt HB2 HN2
    obtain ⟨n0, n1, n2, n3, n4, n5⟩ := blk_instr HN7.out
    obtain ⟨A1, hA1⟩ : ∃ A : List UInt8, A = [67, 66, 90, 32] ++ (regL d) := ⟨_, rfl⟩
    have hcat1 : ∀ wx : World, (Op.stringOp .add ({ data := #[67, 66, 90] } ++ { data := #[32] } : ByteArray) (ba (regL d))).run Try.prog wx = .ok (.string (ba A1)) wx := by
      have hq : ({ data := #[67, 66, 90] } ++ { data := #[32] } : ByteArray) = ba [67, 66, 90, 32] := by kernel_rfl
      rw [hq]
      exact cat_bb (P := Try.prog) _ _ A1 hA1 (by simp; omega)
    obtain ⟨A2, hA2⟩ : ∃ A : List UInt8, A = A1 ++ [44] := ⟨_, rfl⟩
    have hcat2 : ∀ wx : World, (Op.stringOp .add (ba A1) { data := #[44] }).run Try.prog wx = .ok (.string (ba A2)) wx := cat_bb (P := Try.prog) _ _ A2 hA2 (by rw [hA1]; simp; omega)
    obtain ⟨A3, hA3⟩ : ∃ A : List UInt8, A = A2 ++ TG := ⟨_, rfl⟩
    have hcat3 : ∀ wx : World, (Op.stringOp .add (ba A2) (ba TG)).run Try.prog wx = .ok (.string (ba A3)) wx := cat_bb (P := Try.prog) _ _ A3 hA3 (by rw [hA2]; rw [hA1]; simp; omega)
    have HX := Lib.hid (show printA 15 d n m imm kind = A3 by rw [HP.out, hA3, hA2, hA1]; unfold textA; simp [nameL, HTG.out])
    clear hA1 hA2 hA3
    go_wp2_with fail
    refine (HRd.out _).mono ?_
    rintro e w' ⟨rfl, md, rfl⟩
    go_wp2_with fail
    go_ret
    exact ⟨by rw [HX.out]; rfl, by repeat (first | exact HB7.out | refine below_drewN ?_ _ | refine Below.drew ?_ | refine below_alloc ?_ _)⟩
  · have HTG := Lib.hid (HTP.out (by omega))
    clear HTP HTN hcatN
    obtain ⟨TG, rfl⟩ : ∃ T, T = TP := ⟨_, rfl⟩
    go_wp2_with fail
    refine (rname_15 _).mono ?_
    rintro e w7 ⟨rfl, hb⟩
    have HB7 := Lib.hid (below_trans (below_drewN HB2.out _) hb)
    have HN7 := Lib.hid ((HN2.out.dn _).below hb)
    have hlt7 := HN7.out.lt
    clear hb n0 n1 n2 n3 n4 n5 hlt HB2 HN2
    obtain ⟨n0, n1, n2, n3, n4, n5⟩ := blk_instr HN7.out
    obtain ⟨A1, hA1⟩ : ∃ A : List UInt8, A = [67, 66, 90, 32] ++ (regL d) := ⟨_, rfl⟩
    have hcat1 : ∀ wx : World, (Op.stringOp .add ({ data := #[67, 66, 90] } ++ { data := #[32] } : ByteArray) (ba (regL d))).run Try.prog wx = .ok (.string (ba A1)) wx := by
      have hq : ({ data := #[67, 66, 90] } ++ { data := #[32] } : ByteArray) = ba [67, 66, 90, 32] := by kernel_rfl
      rw [hq]
      exact cat_bb (P := Try.prog) _ _ A1 hA1 (by simp; omega)
    obtain ⟨A2, hA2⟩ : ∃ A : List UInt8, A = A1 ++ [44] := ⟨_, rfl⟩
    have hcat2 : ∀ wx : World, (Op.stringOp .add (ba A1) { data := #[44] }).run Try.prog wx = .ok (.string (ba A2)) wx := cat_bb (P := Try.prog) _ _ A2 hA2 (by rw [hA1]; simp; omega)
    obtain ⟨A3, hA3⟩ : ∃ A : List UInt8, A = A2 ++ TG := ⟨_, rfl⟩
    have hcat3 : ∀ wx : World, (Op.stringOp .add (ba A2) (ba TG)).run Try.prog wx = .ok (.string (ba A3)) wx := cat_bb (P := Try.prog) _ _ A3 hA3 (by rw [hA2]; rw [hA1]; simp; omega)
    have HX := Lib.hid (show printA 15 d n m imm kind = A3 by rw [HP.out, hA3, hA2, hA1]; unfold textA; simp [nameL, HTG.out])
    clear hA1 hA2 hA3
    go_wp2_with fail
    refine (HRd.out _).mono ?_
    rintro e w' ⟨rfl, md, rfl⟩
    go_wp2_with fail
    go_ret
    exact ⟨by rw [HX.out]; rfl, by repeat (first | exact HB7.out | refine below_drewN ?_ _ | refine Below.drew ?_ | refine below_alloc ?_ _)⟩
set_option maxRecDepth 100000 in
set_option maxHeartbeats 6400000 in
theorem rpr_16 (d n m imm kind : Int) (w : World) (hr : rightP 16 d n m imm kind) :
    Calls Try.prog 10 #[instrW 16 d n m imm kind] w fun e w' => e = .returned (.string (ba (printA 16 d n m imm kind))) ∧ Below w.heap.size w w' := by
  have HB := Lib.hid (below_alloc (Below.refl w.heap.size w) (.cells #[.int .i64 16, .int .i64 d, .int .i64 n, .int .i64 m, .int .i64 imm, .int .i64 kind] 23))
  have HN := Lib.hid (own_instr w 16 d n m imm kind)
  have HC := Lib.hid (right3_any 16 d n m imm kind (w.alloc (.cells #[.int .i64 16, .int .i64 d, .int .i64 n, .int .i64 m, .int .i64 imm, .int .i64 kind] 23)))
  rw [right_yes hr] at HC
  have HP := Lib.hid (show printA 16 d n m imm kind = textA 16 d n m imm kind from if_pos hr)
  obtain ⟨⟨hop, hd, hn, hm⟩, hB, hCC, hDD⟩ := hr
  have hi : I64 imm := by unfold rightB at hB; unfold rightC at hCC; constructor <;> omega
  have HRC := Lib.hid hCC
  have HRDD := Lib.hid hDD
  clear hB hCC hDD
  have HII := Lib.hid (fun w1 => rint_any imm w1 hi)
  have HRd := Lib.hid (fun w1 => rreg_any d w1 (by omega))
  have HRn := Lib.hid (fun w1 => rreg_any n w1 (by omega))
  have HRm := Lib.hid (fun w1 => rreg_any m w1 (by omega))
  have bI := intL_len imm hi
  have bD := regL_len d (by constructor <;> omega)
  have bN := regL_len n (by constructor <;> omega)
  have bM := regL_len m (by constructor <;> omega)
  obtain ⟨I, hI⟩ : ∃ I : List UInt8, I = [35] ++ intL imm := ⟨_, rfl⟩
  have hcatI : ∀ wx : World, (Op.stringOp .add { data := #[35] } (ba (intL imm))).run Try.prog wx = .ok (.string (ba I)) wx := cat_bb (P := Try.prog) [35] _ I hI (by simp; omega)
  obtain ⟨TP, hTP⟩ : ∃ I : List UInt8, I = [46, 43] ++ intL imm := ⟨_, rfl⟩
  have hcatP : ∀ wx : World, (Op.stringOp .add { data := #[46, 43] } (ba (intL imm))).run Try.prog wx = .ok (.string (ba TP)) wx := cat_bb (P := Try.prog) [46, 43] _ TP hTP (by simp; omega)
  obtain ⟨TN, hTN⟩ : ∃ I : List UInt8, I = [46] ++ intL imm := ⟨_, rfl⟩
  have hcatN : ∀ wx : World, (Op.stringOp .add { data := #[46] } (ba (intL imm))).run Try.prog wx = .ok (.string (ba TN)) wx := cat_bb (P := Try.prog) [46] _ TN hTN (by simp; omega)
  have bII : I.length ≤ 66 := by rw [hI]; simp; omega
  have bTP : TP.length ≤ 67 := by rw [hTP]; simp; omega
  have bTN : TN.length ≤ 67 := by rw [hTN]; simp; omega
  have HIM := Lib.hid (show immL imm = I from hI.symm)
  have HTP := Lib.hid (fun (h : ¬ imm < 0) => show targetL imm = TP by unfold targetL; rw [if_neg h, hTP])
  have HTN := Lib.hid (fun (h : imm < 0) => show targetL imm = TN by unfold targetL; rw [if_pos h, hTN])
  clear hI hTP hTN
  go_enter Try.func10, Try.ntmps10
  go_wp2_with fail
  refine (HC.out).mono ?_
  rintro e w2 ⟨rfl, hb⟩
  have HB2 := Lib.hid (below_trans HB.out hb)
  have hlt := (HN.out.below hb).lt
  have HN2 := Lib.hid (HN.out.below hb)
  obtain ⟨n0, n1, n2, n3, n4, n5⟩ := blk_instr HN2.out
  clear hb HN HB HC
  go_wp2_with fail
  refine (HII.out _).mono ?_
  rintro e w' ⟨rfl, m1, rfl⟩
  go_wp2_with fail
  refine (HII.out _).mono ?_
  rintro e w' ⟨rfl, m2, rfl⟩
  by_cases hneg : imm < 0
  · have HTG := Lib.hid (HTN.out (by omega))
    go_wp2_with fail
    refine (HII.out _).mono ?_
    rintro e w' ⟨rfl, m3, rfl⟩
    clear HTP HTN hcatP
    obtain ⟨TG, rfl⟩ : ∃ T, T = TN := ⟨_, rfl⟩
    go_wp2_with fail
    refine (rname_16 _).mono ?_
    rintro e w7 ⟨rfl, hb⟩
    have HB7 := Lib.hid (below_trans (below_drewN HB2.out _) hb)
    have HN7 := Lib.hid ((HN2.out.dn _).below hb)
    have hlt7 := HN7.out.lt
    clear hb n0 n1 n2 n3 n4 n5 hlt HB2 HN2
    obtain ⟨n0, n1, n2, n3, n4, n5⟩ := blk_instr HN7.out
    obtain ⟨A1, hA1⟩ : ∃ A : List UInt8, A = [67, 66, 78, 90, 32] ++ (regL d) := ⟨_, rfl⟩
    have hcat1 : ∀ wx : World, (Op.stringOp .add ({ data := #[67, 66, 78, 90] } ++ { data := #[32] } : ByteArray) (ba (regL d))).run Try.prog wx = .ok (.string (ba A1)) wx := by
      have hq : ({ data := #[67, 66, 78, 90] } ++ { data := #[32] } : ByteArray) = ba [67, 66, 78, 90, 32] := by kernel_rfl
      rw [hq]
      exact cat_bb (P := Try.prog) _ _ A1 hA1 (by simp; omega)
    obtain ⟨A2, hA2⟩ : ∃ A : List UInt8, A = A1 ++ [44] := ⟨_, rfl⟩
    have hcat2 : ∀ wx : World, (Op.stringOp .add (ba A1) { data := #[44] }).run Try.prog wx = .ok (.string (ba A2)) wx := cat_bb (P := Try.prog) _ _ A2 hA2 (by rw [hA1]; simp; omega)
    obtain ⟨A3, hA3⟩ : ∃ A : List UInt8, A = A2 ++ TG := ⟨_, rfl⟩
    have hcat3 : ∀ wx : World, (Op.stringOp .add (ba A2) (ba TG)).run Try.prog wx = .ok (.string (ba A3)) wx := cat_bb (P := Try.prog) _ _ A3 hA3 (by rw [hA2]; rw [hA1]; simp; omega)
    have HX := Lib.hid (show printA 16 d n m imm kind = A3 by rw [HP.out, hA3, hA2, hA1]; unfold textA; simp [nameL, HTG.out])
    clear hA1 hA2 hA3
    go_wp2_with fail
    refine (HRd.out _).mono ?_
    rintro e w' ⟨rfl, md, rfl⟩
    go_wp2_with fail
    go_ret
    exact ⟨by rw [HX.out]; rfl, by repeat (first | exact HB7.out | refine below_drewN ?_ _ | refine Below.drew ?_ | refine below_alloc ?_ _)⟩
  · have HTG := Lib.hid (HTP.out (by omega))
    clear HTP HTN hcatN
    obtain ⟨TG, rfl⟩ : ∃ T, T = TP := ⟨_, rfl⟩
    go_wp2_with fail
    refine (rname_16 _).mono ?_
    rintro e w7 ⟨rfl, hb⟩
    have HB7 := Lib.hid (below_trans (below_drewN HB2.out _) hb)
    have HN7 := Lib.hid ((HN2.out.dn _).below hb)
    have hlt7 := HN7.out.lt
    clear hb n0 n1 n2 n3 n4 n5 hlt HB2 HN2
    obtain ⟨n0, n1, n2, n3, n4, n5⟩ := blk_instr HN7.out
    obtain ⟨A1, hA1⟩ : ∃ A : List UInt8, A = [67, 66, 78, 90, 32] ++ (regL d) := ⟨_, rfl⟩
    have hcat1 : ∀ wx : World, (Op.stringOp .add ({ data := #[67, 66, 78, 90] } ++ { data := #[32] } : ByteArray) (ba (regL d))).run Try.prog wx = .ok (.string (ba A1)) wx := by
      have hq : ({ data := #[67, 66, 78, 90] } ++ { data := #[32] } : ByteArray) = ba [67, 66, 78, 90, 32] := by kernel_rfl
      rw [hq]
      exact cat_bb (P := Try.prog) _ _ A1 hA1 (by simp; omega)
    obtain ⟨A2, hA2⟩ : ∃ A : List UInt8, A = A1 ++ [44] := ⟨_, rfl⟩
    have hcat2 : ∀ wx : World, (Op.stringOp .add (ba A1) { data := #[44] }).run Try.prog wx = .ok (.string (ba A2)) wx := cat_bb (P := Try.prog) _ _ A2 hA2 (by rw [hA1]; simp; omega)
    obtain ⟨A3, hA3⟩ : ∃ A : List UInt8, A = A2 ++ TG := ⟨_, rfl⟩
    have hcat3 : ∀ wx : World, (Op.stringOp .add (ba A2) (ba TG)).run Try.prog wx = .ok (.string (ba A3)) wx := cat_bb (P := Try.prog) _ _ A3 hA3 (by rw [hA2]; rw [hA1]; simp; omega)
    have HX := Lib.hid (show printA 16 d n m imm kind = A3 by rw [HP.out, hA3, hA2, hA1]; unfold textA; simp [nameL, HTG.out])
    clear hA1 hA2 hA3
    go_wp2_with fail
    refine (HRd.out _).mono ?_
    rintro e w' ⟨rfl, md, rfl⟩
    go_wp2_with fail
    go_ret
    exact ⟨by rw [HX.out]; rfl, by repeat (first | exact HB7.out | refine below_drewN ?_ _ | refine Below.drew ?_ | refine below_alloc ?_ _)⟩
set_option maxRecDepth 100000 in
set_option maxHeartbeats 6400000 in
theorem rpr_17 (d n m imm kind : Int) (w : World) (hr : rightP 17 d n m imm kind) :
    Calls Try.prog 10 #[instrW 17 d n m imm kind] w fun e w' => e = .returned (.string (ba (printA 17 d n m imm kind))) ∧ Below w.heap.size w w' := by
  have HB := Lib.hid (below_alloc (Below.refl w.heap.size w) (.cells #[.int .i64 17, .int .i64 d, .int .i64 n, .int .i64 m, .int .i64 imm, .int .i64 kind] 23))
  have HN := Lib.hid (own_instr w 17 d n m imm kind)
  have HC := Lib.hid (right3_any 17 d n m imm kind (w.alloc (.cells #[.int .i64 17, .int .i64 d, .int .i64 n, .int .i64 m, .int .i64 imm, .int .i64 kind] 23)))
  rw [right_yes hr] at HC
  have HP := Lib.hid (show printA 17 d n m imm kind = textA 17 d n m imm kind from if_pos hr)
  obtain ⟨⟨hop, hd, hn, hm⟩, hB, hCC, hDD⟩ := hr
  have hi : I64 imm := by unfold rightB at hB; unfold rightC at hCC; constructor <;> omega
  have HRC := Lib.hid hCC
  have HRDD := Lib.hid hDD
  clear hB hCC hDD
  have HII := Lib.hid (fun w1 => rint_any imm w1 hi)
  have HRd := Lib.hid (fun w1 => rreg_any d w1 (by omega))
  have HRn := Lib.hid (fun w1 => rreg_any n w1 (by omega))
  have HRm := Lib.hid (fun w1 => rreg_any m w1 (by omega))
  have bI := intL_len imm hi
  have bD := regL_len d (by constructor <;> omega)
  have bN := regL_len n (by constructor <;> omega)
  have bM := regL_len m (by constructor <;> omega)
  obtain ⟨I, hI⟩ : ∃ I : List UInt8, I = [35] ++ intL imm := ⟨_, rfl⟩
  have hcatI : ∀ wx : World, (Op.stringOp .add { data := #[35] } (ba (intL imm))).run Try.prog wx = .ok (.string (ba I)) wx := cat_bb (P := Try.prog) [35] _ I hI (by simp; omega)
  obtain ⟨TP, hTP⟩ : ∃ I : List UInt8, I = [46, 43] ++ intL imm := ⟨_, rfl⟩
  have hcatP : ∀ wx : World, (Op.stringOp .add { data := #[46, 43] } (ba (intL imm))).run Try.prog wx = .ok (.string (ba TP)) wx := cat_bb (P := Try.prog) [46, 43] _ TP hTP (by simp; omega)
  obtain ⟨TN, hTN⟩ : ∃ I : List UInt8, I = [46] ++ intL imm := ⟨_, rfl⟩
  have hcatN : ∀ wx : World, (Op.stringOp .add { data := #[46] } (ba (intL imm))).run Try.prog wx = .ok (.string (ba TN)) wx := cat_bb (P := Try.prog) [46] _ TN hTN (by simp; omega)
  have bII : I.length ≤ 66 := by rw [hI]; simp; omega
  have bTP : TP.length ≤ 67 := by rw [hTP]; simp; omega
  have bTN : TN.length ≤ 67 := by rw [hTN]; simp; omega
  have HIM := Lib.hid (show immL imm = I from hI.symm)
  have HTP := Lib.hid (fun (h : ¬ imm < 0) => show targetL imm = TP by unfold targetL; rw [if_neg h, hTP])
  have HTN := Lib.hid (fun (h : imm < 0) => show targetL imm = TN by unfold targetL; rw [if_pos h, hTN])
  clear hI hTP hTN
  go_enter Try.func10, Try.ntmps10
  go_wp2_with fail
  refine (HC.out).mono ?_
  rintro e w2 ⟨rfl, hb⟩
  have HB2 := Lib.hid (below_trans HB.out hb)
  have hlt := (HN.out.below hb).lt
  have HN2 := Lib.hid (HN.out.below hb)
  obtain ⟨n0, n1, n2, n3, n4, n5⟩ := blk_instr HN2.out
  clear hb HN HB HC
  go_wp2_with fail
  refine (HII.out _).mono ?_
  rintro e w' ⟨rfl, m1, rfl⟩
  go_wp2_with fail
  refine (HII.out _).mono ?_
  rintro e w' ⟨rfl, m2, rfl⟩
  by_cases hneg : imm < 0
  · have HTG := Lib.hid (HTN.out (by omega))
    go_wp2_with fail
    refine (HII.out _).mono ?_
    rintro e w' ⟨rfl, m3, rfl⟩
    clear HTP HTN hcatP
    obtain ⟨TG, rfl⟩ : ∃ T, T = TN := ⟨_, rfl⟩
    go_wp2_with fail
    refine (rname_17 _).mono ?_
    rintro e w7 ⟨rfl, hb⟩
    have HB7 := Lib.hid (below_trans (below_drewN HB2.out _) hb)
    have HN7 := Lib.hid ((HN2.out.dn _).below hb)
    have hlt7 := HN7.out.lt
    clear hb n0 n1 n2 n3 n4 n5 hlt HB2 HN2
    obtain ⟨n0, n1, n2, n3, n4, n5⟩ := blk_instr HN7.out
    have hkk : kind = 0 ∨ kind = 1 := by have := HRC.out; unfold rightC at this; omega
    rcases hkk with rfl | rfl
    · obtain ⟨A1, hA1⟩ : ∃ A : List UInt8, A = [66, 46, 69, 81, 32] ++ TG := ⟨_, rfl⟩
      have hcat1 : ∀ wx : World, (Op.stringOp .add ({ data := #[66, 46, 69, 81, 32] } : ByteArray) (ba TG)).run Try.prog wx = .ok (.string (ba A1)) wx := cat_bb (P := Try.prog) _ _ A1 hA1 (by simp; omega)
      have HX := Lib.hid (show printA 17 d n m imm 0 = A1 by rw [HP.out, hA1]; unfold textA; simp [HTG.out])
      clear hA1
      go_wp2_with fail
      go_ret
      exact ⟨by rw [HX.out]; rfl, by repeat (first | exact HB7.out | refine below_drewN ?_ _ | refine Below.drew ?_ | refine below_alloc ?_ _)⟩
    · obtain ⟨A1, hA1⟩ : ∃ A : List UInt8, A = [66, 46, 78, 69, 32] ++ TG := ⟨_, rfl⟩
      have hcat1 : ∀ wx : World, (Op.stringOp .add ({ data := #[66, 46, 78, 69, 32] } : ByteArray) (ba TG)).run Try.prog wx = .ok (.string (ba A1)) wx := cat_bb (P := Try.prog) _ _ A1 hA1 (by simp; omega)
      have HX := Lib.hid (show printA 17 d n m imm 1 = A1 by rw [HP.out, hA1]; unfold textA; simp [HTG.out])
      clear hA1
      go_wp2_with fail
      go_ret
      exact ⟨by rw [HX.out]; rfl, by repeat (first | exact HB7.out | refine below_drewN ?_ _ | refine Below.drew ?_ | refine below_alloc ?_ _)⟩
  · have HTG := Lib.hid (HTP.out (by omega))
    clear HTP HTN hcatN
    obtain ⟨TG, rfl⟩ : ∃ T, T = TP := ⟨_, rfl⟩
    go_wp2_with fail
    refine (rname_17 _).mono ?_
    rintro e w7 ⟨rfl, hb⟩
    have HB7 := Lib.hid (below_trans (below_drewN HB2.out _) hb)
    have HN7 := Lib.hid ((HN2.out.dn _).below hb)
    have hlt7 := HN7.out.lt
    clear hb n0 n1 n2 n3 n4 n5 hlt HB2 HN2
    obtain ⟨n0, n1, n2, n3, n4, n5⟩ := blk_instr HN7.out
    have hkk : kind = 0 ∨ kind = 1 := by have := HRC.out; unfold rightC at this; omega
    rcases hkk with rfl | rfl
    · obtain ⟨A1, hA1⟩ : ∃ A : List UInt8, A = [66, 46, 69, 81, 32] ++ TG := ⟨_, rfl⟩
      have hcat1 : ∀ wx : World, (Op.stringOp .add ({ data := #[66, 46, 69, 81, 32] } : ByteArray) (ba TG)).run Try.prog wx = .ok (.string (ba A1)) wx := cat_bb (P := Try.prog) _ _ A1 hA1 (by simp; omega)
      have HX := Lib.hid (show printA 17 d n m imm 0 = A1 by rw [HP.out, hA1]; unfold textA; simp [HTG.out])
      clear hA1
      go_wp2_with fail
      go_ret
      exact ⟨by rw [HX.out]; rfl, by repeat (first | exact HB7.out | refine below_drewN ?_ _ | refine Below.drew ?_ | refine below_alloc ?_ _)⟩
    · obtain ⟨A1, hA1⟩ : ∃ A : List UInt8, A = [66, 46, 78, 69, 32] ++ TG := ⟨_, rfl⟩
      have hcat1 : ∀ wx : World, (Op.stringOp .add ({ data := #[66, 46, 78, 69, 32] } : ByteArray) (ba TG)).run Try.prog wx = .ok (.string (ba A1)) wx := cat_bb (P := Try.prog) _ _ A1 hA1 (by simp; omega)
      have HX := Lib.hid (show printA 17 d n m imm 1 = A1 by rw [HP.out, hA1]; unfold textA; simp [HTG.out])
      clear hA1
      go_wp2_with fail
      go_ret
      exact ⟨by rw [HX.out]; rfl, by repeat (first | exact HB7.out | refine below_drewN ?_ _ | refine Below.drew ?_ | refine below_alloc ?_ _)⟩
set_option maxRecDepth 100000 in
set_option maxHeartbeats 6400000 in
theorem rpr_18 (d n m imm kind : Int) (w : World) (hr : rightP 18 d n m imm kind) :
    Calls Try.prog 10 #[instrW 18 d n m imm kind] w fun e w' => e = .returned (.string (ba (printA 18 d n m imm kind))) ∧ Below w.heap.size w w' := by
  have HB := Lib.hid (below_alloc (Below.refl w.heap.size w) (.cells #[.int .i64 18, .int .i64 d, .int .i64 n, .int .i64 m, .int .i64 imm, .int .i64 kind] 23))
  have HN := Lib.hid (own_instr w 18 d n m imm kind)
  have HC := Lib.hid (right3_any 18 d n m imm kind (w.alloc (.cells #[.int .i64 18, .int .i64 d, .int .i64 n, .int .i64 m, .int .i64 imm, .int .i64 kind] 23)))
  rw [right_yes hr] at HC
  have HP := Lib.hid (show printA 18 d n m imm kind = textA 18 d n m imm kind from if_pos hr)
  obtain ⟨⟨hop, hd, hn, hm⟩, hB, hCC, hDD⟩ := hr
  have hi : I64 imm := by unfold rightB at hB; unfold rightC at hCC; constructor <;> omega
  have hneg : ¬ imm < 0 := by unfold rightB at hB; unfold rightC at hCC; omega
  have HRC := Lib.hid hCC
  have HRDD := Lib.hid hDD
  clear hB hCC hDD
  have HII := Lib.hid (fun w1 => rint_any imm w1 hi)
  have HRd := Lib.hid (fun w1 => rreg_any d w1 (by omega))
  have HRn := Lib.hid (fun w1 => rreg_any n w1 (by omega))
  have HRm := Lib.hid (fun w1 => rreg_any m w1 (by omega))
  have bI := intL_len imm hi
  have bD := regL_len d (by constructor <;> omega)
  have bN := regL_len n (by constructor <;> omega)
  have bM := regL_len m (by constructor <;> omega)
  obtain ⟨I, hI⟩ : ∃ I : List UInt8, I = [35] ++ intL imm := ⟨_, rfl⟩
  have hcatI : ∀ wx : World, (Op.stringOp .add { data := #[35] } (ba (intL imm))).run Try.prog wx = .ok (.string (ba I)) wx := cat_bb (P := Try.prog) [35] _ I hI (by simp; omega)
  obtain ⟨TP, hTP⟩ : ∃ I : List UInt8, I = [46, 43] ++ intL imm := ⟨_, rfl⟩
  have hcatP : ∀ wx : World, (Op.stringOp .add { data := #[46, 43] } (ba (intL imm))).run Try.prog wx = .ok (.string (ba TP)) wx := cat_bb (P := Try.prog) [46, 43] _ TP hTP (by simp; omega)
  obtain ⟨TN, hTN⟩ : ∃ I : List UInt8, I = [46] ++ intL imm := ⟨_, rfl⟩
  have hcatN : ∀ wx : World, (Op.stringOp .add { data := #[46] } (ba (intL imm))).run Try.prog wx = .ok (.string (ba TN)) wx := cat_bb (P := Try.prog) [46] _ TN hTN (by simp; omega)
  have bII : I.length ≤ 66 := by rw [hI]; simp; omega
  have bTP : TP.length ≤ 67 := by rw [hTP]; simp; omega
  have bTN : TN.length ≤ 67 := by rw [hTN]; simp; omega
  have HIM := Lib.hid (show immL imm = I from hI.symm)
  have HTP := Lib.hid (fun (h : ¬ imm < 0) => show targetL imm = TP by unfold targetL; rw [if_neg h, hTP])
  have HTN := Lib.hid (fun (h : imm < 0) => show targetL imm = TN by unfold targetL; rw [if_pos h, hTN])
  clear hI hTP hTN
  go_enter Try.func10, Try.ntmps10
  go_wp2_with fail
  refine (HC.out).mono ?_
  rintro e w2 ⟨rfl, hb⟩
  have HB2 := Lib.hid (below_trans HB.out hb)
  have hlt := (HN.out.below hb).lt
  have HN2 := Lib.hid (HN.out.below hb)
  obtain ⟨n0, n1, n2, n3, n4, n5⟩ := blk_instr HN2.out
  clear hb HN HB HC
  go_wp2_with fail
  refine (HII.out _).mono ?_
  rintro e w' ⟨rfl, m1, rfl⟩
  go_wp2_with fail
  refine (HII.out _).mono ?_
  rintro e w' ⟨rfl, m2, rfl⟩
  clear HTP HTN
  go_wp2_with fail
  refine (rname_18 _).mono ?_
  rintro e w7 ⟨rfl, hb⟩
  have HB7 := Lib.hid (below_trans (below_drewN HB2.out _) hb)
  have HN7 := Lib.hid ((HN2.out.dn _).below hb)
  have hlt7 := HN7.out.lt
  clear hb n0 n1 n2 n3 n4 n5 hlt HB2 HN2
  obtain ⟨n0, n1, n2, n3, n4, n5⟩ := blk_instr HN7.out
  have hkk : kind = 9 ∨ kind = 10 ∨ kind = 11 ∨ kind = 13 ∨ kind = 14 ∨ kind = 15 := by have := HRDD.out; unfold rightD at this; omega
  rcases hkk with rfl | rfl | rfl | rfl | rfl | rfl
  · have HX := Lib.hid (show printA 18 d n m imm 9 = ([68, 77, 66, 32, 73, 83, 72, 76, 68] : List UInt8) by rw [HP.out]; unfold textA; simp [barL])
    go_wp2_with fail
    refine (rbar_9 _).mono ?_
    rintro e w8 ⟨rfl, hb⟩
    have HB8 := Lib.hid (below_trans HB7.out hb)
    go_wp2_with fail
    go_ret
    exact ⟨by rw [HX.out]; kernel_rfl, by repeat (first | exact HB8.out | refine below_drewN ?_ _ | refine Below.drew ?_ | refine below_alloc ?_ _)⟩
  · have HX := Lib.hid (show printA 18 d n m imm 10 = ([68, 77, 66, 32, 73, 83, 72, 83, 84] : List UInt8) by rw [HP.out]; unfold textA; simp [barL])
    go_wp2_with fail
    refine (rbar_10 _).mono ?_
    rintro e w8 ⟨rfl, hb⟩
    have HB8 := Lib.hid (below_trans HB7.out hb)
    go_wp2_with fail
    go_ret
    exact ⟨by rw [HX.out]; kernel_rfl, by repeat (first | exact HB8.out | refine below_drewN ?_ _ | refine Below.drew ?_ | refine below_alloc ?_ _)⟩
  · have HX := Lib.hid (show printA 18 d n m imm 11 = ([68, 77, 66, 32, 73, 83, 72] : List UInt8) by rw [HP.out]; unfold textA; simp [barL])
    go_wp2_with fail
    refine (rbar_11 _).mono ?_
    rintro e w8 ⟨rfl, hb⟩
    have HB8 := Lib.hid (below_trans HB7.out hb)
    go_wp2_with fail
    go_ret
    exact ⟨by rw [HX.out]; kernel_rfl, by repeat (first | exact HB8.out | refine below_drewN ?_ _ | refine Below.drew ?_ | refine below_alloc ?_ _)⟩
  · have HX := Lib.hid (show printA 18 d n m imm 13 = ([68, 77, 66, 32, 76, 68] : List UInt8) by rw [HP.out]; unfold textA; simp [barL])
    go_wp2_with fail
    refine (rbar_13 _).mono ?_
    rintro e w8 ⟨rfl, hb⟩
    have HB8 := Lib.hid (below_trans HB7.out hb)
    go_wp2_with fail
    go_ret
    exact ⟨by rw [HX.out]; kernel_rfl, by repeat (first | exact HB8.out | refine below_drewN ?_ _ | refine Below.drew ?_ | refine below_alloc ?_ _)⟩
  · have HX := Lib.hid (show printA 18 d n m imm 14 = ([68, 77, 66, 32, 83, 84] : List UInt8) by rw [HP.out]; unfold textA; simp [barL])
    go_wp2_with fail
    refine (rbar_14 _).mono ?_
    rintro e w8 ⟨rfl, hb⟩
    have HB8 := Lib.hid (below_trans HB7.out hb)
    go_wp2_with fail
    go_ret
    exact ⟨by rw [HX.out]; kernel_rfl, by repeat (first | exact HB8.out | refine below_drewN ?_ _ | refine Below.drew ?_ | refine below_alloc ?_ _)⟩
  · have HX := Lib.hid (show printA 18 d n m imm 15 = ([68, 77, 66, 32, 83, 89] : List UInt8) by rw [HP.out]; unfold textA; simp [barL])
    go_wp2_with fail
    refine (rbar_15 _).mono ?_
    rintro e w8 ⟨rfl, hb⟩
    have HB8 := Lib.hid (below_trans HB7.out hb)
    go_wp2_with fail
    go_ret
    exact ⟨by rw [HX.out]; kernel_rfl, by repeat (first | exact HB8.out | refine below_drewN ?_ _ | refine Below.drew ?_ | refine below_alloc ?_ _)⟩
set_option maxRecDepth 100000 in
set_option maxHeartbeats 6400000 in
theorem rpr_19 (d n m imm kind : Int) (w : World) (hr : rightP 19 d n m imm kind) :
    Calls Try.prog 10 #[instrW 19 d n m imm kind] w fun e w' => e = .returned (.string (ba (printA 19 d n m imm kind))) ∧ Below w.heap.size w w' := by
  have HB := Lib.hid (below_alloc (Below.refl w.heap.size w) (.cells #[.int .i64 19, .int .i64 d, .int .i64 n, .int .i64 m, .int .i64 imm, .int .i64 kind] 23))
  have HN := Lib.hid (own_instr w 19 d n m imm kind)
  have HC := Lib.hid (right3_any 19 d n m imm kind (w.alloc (.cells #[.int .i64 19, .int .i64 d, .int .i64 n, .int .i64 m, .int .i64 imm, .int .i64 kind] 23)))
  rw [right_yes hr] at HC
  have HP := Lib.hid (show printA 19 d n m imm kind = textA 19 d n m imm kind from if_pos hr)
  obtain ⟨⟨hop, hd, hn, hm⟩, hB, hCC, hDD⟩ := hr
  have hi : I64 imm := by unfold rightB at hB; unfold rightC at hCC; constructor <;> omega
  have hneg : ¬ imm < 0 := by unfold rightB at hB; unfold rightC at hCC; omega
  have HRC := Lib.hid hCC
  have HRDD := Lib.hid hDD
  clear hB hCC hDD
  have HII := Lib.hid (fun w1 => rint_any imm w1 hi)
  have HRd := Lib.hid (fun w1 => rreg_any d w1 (by omega))
  have HRn := Lib.hid (fun w1 => rreg_any n w1 (by omega))
  have HRm := Lib.hid (fun w1 => rreg_any m w1 (by omega))
  have bI := intL_len imm hi
  have bD := regL_len d (by constructor <;> omega)
  have bN := regL_len n (by constructor <;> omega)
  have bM := regL_len m (by constructor <;> omega)
  obtain ⟨I, hI⟩ : ∃ I : List UInt8, I = [35] ++ intL imm := ⟨_, rfl⟩
  have hcatI : ∀ wx : World, (Op.stringOp .add { data := #[35] } (ba (intL imm))).run Try.prog wx = .ok (.string (ba I)) wx := cat_bb (P := Try.prog) [35] _ I hI (by simp; omega)
  obtain ⟨TP, hTP⟩ : ∃ I : List UInt8, I = [46, 43] ++ intL imm := ⟨_, rfl⟩
  have hcatP : ∀ wx : World, (Op.stringOp .add { data := #[46, 43] } (ba (intL imm))).run Try.prog wx = .ok (.string (ba TP)) wx := cat_bb (P := Try.prog) [46, 43] _ TP hTP (by simp; omega)
  obtain ⟨TN, hTN⟩ : ∃ I : List UInt8, I = [46] ++ intL imm := ⟨_, rfl⟩
  have hcatN : ∀ wx : World, (Op.stringOp .add { data := #[46] } (ba (intL imm))).run Try.prog wx = .ok (.string (ba TN)) wx := cat_bb (P := Try.prog) [46] _ TN hTN (by simp; omega)
  have bII : I.length ≤ 66 := by rw [hI]; simp; omega
  have bTP : TP.length ≤ 67 := by rw [hTP]; simp; omega
  have bTN : TN.length ≤ 67 := by rw [hTN]; simp; omega
  have HIM := Lib.hid (show immL imm = I from hI.symm)
  have HTP := Lib.hid (fun (h : ¬ imm < 0) => show targetL imm = TP by unfold targetL; rw [if_neg h, hTP])
  have HTN := Lib.hid (fun (h : imm < 0) => show targetL imm = TN by unfold targetL; rw [if_pos h, hTN])
  clear hI hTP hTN
  go_enter Try.func10, Try.ntmps10
  go_wp2_with fail
  refine (HC.out).mono ?_
  rintro e w2 ⟨rfl, hb⟩
  have HB2 := Lib.hid (below_trans HB.out hb)
  have hlt := (HN.out.below hb).lt
  have HN2 := Lib.hid (HN.out.below hb)
  obtain ⟨n0, n1, n2, n3, n4, n5⟩ := blk_instr HN2.out
  clear hb HN HB HC
  go_wp2_with fail
  refine (HII.out _).mono ?_
  rintro e w' ⟨rfl, m1, rfl⟩
  go_wp2_with fail
  refine (HII.out _).mono ?_
  rintro e w' ⟨rfl, m2, rfl⟩
  clear HTP HTN
  go_wp2_with fail
  refine (rname_19 _).mono ?_
  rintro e w7 ⟨rfl, hb⟩
  have HB7 := Lib.hid (below_trans (below_drewN HB2.out _) hb)
  have HN7 := Lib.hid ((HN2.out.dn _).below hb)
  have hlt7 := HN7.out.lt
  clear hb n0 n1 n2 n3 n4 n5 hlt HB2 HN2
  obtain ⟨n0, n1, n2, n3, n4, n5⟩ := blk_instr HN7.out
  have hkk : kind = 9 ∨ kind = 10 ∨ kind = 11 ∨ kind = 13 ∨ kind = 14 ∨ kind = 15 := by have := HRDD.out; unfold rightD at this; omega
  rcases hkk with rfl | rfl | rfl | rfl | rfl | rfl
  · have HX := Lib.hid (show printA 19 d n m imm 9 = ([68, 83, 66, 32, 73, 83, 72, 76, 68] : List UInt8) by rw [HP.out]; unfold textA; simp [barL])
    go_wp2_with fail
    refine (rbar_9 _).mono ?_
    rintro e w8 ⟨rfl, hb⟩
    have HB8 := Lib.hid (below_trans HB7.out hb)
    go_wp2_with fail
    go_ret
    exact ⟨by rw [HX.out]; kernel_rfl, by repeat (first | exact HB8.out | refine below_drewN ?_ _ | refine Below.drew ?_ | refine below_alloc ?_ _)⟩
  · have HX := Lib.hid (show printA 19 d n m imm 10 = ([68, 83, 66, 32, 73, 83, 72, 83, 84] : List UInt8) by rw [HP.out]; unfold textA; simp [barL])
    go_wp2_with fail
    refine (rbar_10 _).mono ?_
    rintro e w8 ⟨rfl, hb⟩
    have HB8 := Lib.hid (below_trans HB7.out hb)
    go_wp2_with fail
    go_ret
    exact ⟨by rw [HX.out]; kernel_rfl, by repeat (first | exact HB8.out | refine below_drewN ?_ _ | refine Below.drew ?_ | refine below_alloc ?_ _)⟩
  · have HX := Lib.hid (show printA 19 d n m imm 11 = ([68, 83, 66, 32, 73, 83, 72] : List UInt8) by rw [HP.out]; unfold textA; simp [barL])
    go_wp2_with fail
    refine (rbar_11 _).mono ?_
    rintro e w8 ⟨rfl, hb⟩
    have HB8 := Lib.hid (below_trans HB7.out hb)
    go_wp2_with fail
    go_ret
    exact ⟨by rw [HX.out]; kernel_rfl, by repeat (first | exact HB8.out | refine below_drewN ?_ _ | refine Below.drew ?_ | refine below_alloc ?_ _)⟩
  · have HX := Lib.hid (show printA 19 d n m imm 13 = ([68, 83, 66, 32, 76, 68] : List UInt8) by rw [HP.out]; unfold textA; simp [barL])
    go_wp2_with fail
    refine (rbar_13 _).mono ?_
    rintro e w8 ⟨rfl, hb⟩
    have HB8 := Lib.hid (below_trans HB7.out hb)
    go_wp2_with fail
    go_ret
    exact ⟨by rw [HX.out]; kernel_rfl, by repeat (first | exact HB8.out | refine below_drewN ?_ _ | refine Below.drew ?_ | refine below_alloc ?_ _)⟩
  · have HX := Lib.hid (show printA 19 d n m imm 14 = ([68, 83, 66, 32, 83, 84] : List UInt8) by rw [HP.out]; unfold textA; simp [barL])
    go_wp2_with fail
    refine (rbar_14 _).mono ?_
    rintro e w8 ⟨rfl, hb⟩
    have HB8 := Lib.hid (below_trans HB7.out hb)
    go_wp2_with fail
    go_ret
    exact ⟨by rw [HX.out]; kernel_rfl, by repeat (first | exact HB8.out | refine below_drewN ?_ _ | refine Below.drew ?_ | refine below_alloc ?_ _)⟩
  · have HX := Lib.hid (show printA 19 d n m imm 15 = ([68, 83, 66, 32, 83, 89] : List UInt8) by rw [HP.out]; unfold textA; simp [barL])
    go_wp2_with fail
    refine (rbar_15 _).mono ?_
    rintro e w8 ⟨rfl, hb⟩
    have HB8 := Lib.hid (below_trans HB7.out hb)
    go_wp2_with fail
    go_ret
    exact ⟨by rw [HX.out]; kernel_rfl, by repeat (first | exact HB8.out | refine below_drewN ?_ _ | refine Below.drew ?_ | refine below_alloc ?_ _)⟩
set_option maxRecDepth 100000 in
set_option maxHeartbeats 6400000 in
theorem rpr_20 (d n m imm kind : Int) (w : World) (hr : rightP 20 d n m imm kind) :
    Calls Try.prog 10 #[instrW 20 d n m imm kind] w fun e w' => e = .returned (.string (ba (printA 20 d n m imm kind))) ∧ Below w.heap.size w w' := by
  have HB := Lib.hid (below_alloc (Below.refl w.heap.size w) (.cells #[.int .i64 20, .int .i64 d, .int .i64 n, .int .i64 m, .int .i64 imm, .int .i64 kind] 23))
  have HN := Lib.hid (own_instr w 20 d n m imm kind)
  have HC := Lib.hid (right3_any 20 d n m imm kind (w.alloc (.cells #[.int .i64 20, .int .i64 d, .int .i64 n, .int .i64 m, .int .i64 imm, .int .i64 kind] 23)))
  rw [right_yes hr] at HC
  have HP := Lib.hid (show printA 20 d n m imm kind = textA 20 d n m imm kind from if_pos hr)
  obtain ⟨⟨hop, hd, hn, hm⟩, hB, hCC, hDD⟩ := hr
  have hi : I64 imm := by unfold rightB at hB; unfold rightC at hCC; constructor <;> omega
  have hneg : ¬ imm < 0 := by unfold rightB at hB; unfold rightC at hCC; omega
  have HRC := Lib.hid hCC
  have HRDD := Lib.hid hDD
  clear hB hCC hDD
  have HII := Lib.hid (fun w1 => rint_any imm w1 hi)
  have HRd := Lib.hid (fun w1 => rreg_any d w1 (by omega))
  have HRn := Lib.hid (fun w1 => rreg_any n w1 (by omega))
  have HRm := Lib.hid (fun w1 => rreg_any m w1 (by omega))
  have bI := intL_len imm hi
  have bD := regL_len d (by constructor <;> omega)
  have bN := regL_len n (by constructor <;> omega)
  have bM := regL_len m (by constructor <;> omega)
  obtain ⟨I, hI⟩ : ∃ I : List UInt8, I = [35] ++ intL imm := ⟨_, rfl⟩
  have hcatI : ∀ wx : World, (Op.stringOp .add { data := #[35] } (ba (intL imm))).run Try.prog wx = .ok (.string (ba I)) wx := cat_bb (P := Try.prog) [35] _ I hI (by simp; omega)
  obtain ⟨TP, hTP⟩ : ∃ I : List UInt8, I = [46, 43] ++ intL imm := ⟨_, rfl⟩
  have hcatP : ∀ wx : World, (Op.stringOp .add { data := #[46, 43] } (ba (intL imm))).run Try.prog wx = .ok (.string (ba TP)) wx := cat_bb (P := Try.prog) [46, 43] _ TP hTP (by simp; omega)
  obtain ⟨TN, hTN⟩ : ∃ I : List UInt8, I = [46] ++ intL imm := ⟨_, rfl⟩
  have hcatN : ∀ wx : World, (Op.stringOp .add { data := #[46] } (ba (intL imm))).run Try.prog wx = .ok (.string (ba TN)) wx := cat_bb (P := Try.prog) [46] _ TN hTN (by simp; omega)
  have bII : I.length ≤ 66 := by rw [hI]; simp; omega
  have bTP : TP.length ≤ 67 := by rw [hTP]; simp; omega
  have bTN : TN.length ≤ 67 := by rw [hTN]; simp; omega
  have HIM := Lib.hid (show immL imm = I from hI.symm)
  have HTP := Lib.hid (fun (h : ¬ imm < 0) => show targetL imm = TP by unfold targetL; rw [if_neg h, hTP])
  have HTN := Lib.hid (fun (h : imm < 0) => show targetL imm = TN by unfold targetL; rw [if_pos h, hTN])
  clear hI hTP hTN
  go_enter Try.func10, Try.ntmps10
  go_wp2_with fail
  refine (HC.out).mono ?_
  rintro e w2 ⟨rfl, hb⟩
  have HB2 := Lib.hid (below_trans HB.out hb)
  have hlt := (HN.out.below hb).lt
  have HN2 := Lib.hid (HN.out.below hb)
  obtain ⟨n0, n1, n2, n3, n4, n5⟩ := blk_instr HN2.out
  clear hb HN HB HC
  go_wp2_with fail
  refine (HII.out _).mono ?_
  rintro e w' ⟨rfl, m1, rfl⟩
  go_wp2_with fail
  refine (HII.out _).mono ?_
  rintro e w' ⟨rfl, m2, rfl⟩
  clear HTP HTN
  go_wp2_with fail
  refine (rname_20 _).mono ?_
  rintro e w7 ⟨rfl, hb⟩
  have HB7 := Lib.hid (below_trans (below_drewN HB2.out _) hb)
  have HN7 := Lib.hid ((HN2.out.dn _).below hb)
  have hlt7 := HN7.out.lt
  clear hb n0 n1 n2 n3 n4 n5 hlt HB2 HN2
  obtain ⟨n0, n1, n2, n3, n4, n5⟩ := blk_instr HN7.out
  have HX := Lib.hid (show printA 20 d n m imm kind = ([73, 83, 66] : List UInt8) by rw [HP.out]; unfold textA; simp [nameL])
  go_wp2_with fail
  go_ret
  exact ⟨by rw [HX.out]; rfl, by repeat (first | exact HB7.out | refine below_drewN ?_ _ | refine Below.drew ?_ | refine below_alloc ?_ _)⟩
set_option maxRecDepth 100000 in
set_option maxHeartbeats 6400000 in
theorem rpr_21 (d n m imm kind : Int) (w : World) (hr : rightP 21 d n m imm kind) :
    Calls Try.prog 10 #[instrW 21 d n m imm kind] w fun e w' => e = .returned (.string (ba (printA 21 d n m imm kind))) ∧ Below w.heap.size w w' := by
  have HB := Lib.hid (below_alloc (Below.refl w.heap.size w) (.cells #[.int .i64 21, .int .i64 d, .int .i64 n, .int .i64 m, .int .i64 imm, .int .i64 kind] 23))
  have HN := Lib.hid (own_instr w 21 d n m imm kind)
  have HC := Lib.hid (right3_any 21 d n m imm kind (w.alloc (.cells #[.int .i64 21, .int .i64 d, .int .i64 n, .int .i64 m, .int .i64 imm, .int .i64 kind] 23)))
  rw [right_yes hr] at HC
  have HP := Lib.hid (show printA 21 d n m imm kind = textA 21 d n m imm kind from if_pos hr)
  obtain ⟨⟨hop, hd, hn, hm⟩, hB, hCC, hDD⟩ := hr
  have hi : I64 imm := by unfold rightB at hB; unfold rightC at hCC; constructor <;> omega
  have hneg : ¬ imm < 0 := by unfold rightB at hB; unfold rightC at hCC; omega
  have HRC := Lib.hid hCC
  have HRDD := Lib.hid hDD
  clear hB hCC hDD
  have HII := Lib.hid (fun w1 => rint_any imm w1 hi)
  have HRd := Lib.hid (fun w1 => rreg_any d w1 (by omega))
  have HRn := Lib.hid (fun w1 => rreg_any n w1 (by omega))
  have HRm := Lib.hid (fun w1 => rreg_any m w1 (by omega))
  have bI := intL_len imm hi
  have bD := regL_len d (by constructor <;> omega)
  have bN := regL_len n (by constructor <;> omega)
  have bM := regL_len m (by constructor <;> omega)
  obtain ⟨I, hI⟩ : ∃ I : List UInt8, I = [35] ++ intL imm := ⟨_, rfl⟩
  have hcatI : ∀ wx : World, (Op.stringOp .add { data := #[35] } (ba (intL imm))).run Try.prog wx = .ok (.string (ba I)) wx := cat_bb (P := Try.prog) [35] _ I hI (by simp; omega)
  obtain ⟨TP, hTP⟩ : ∃ I : List UInt8, I = [46, 43] ++ intL imm := ⟨_, rfl⟩
  have hcatP : ∀ wx : World, (Op.stringOp .add { data := #[46, 43] } (ba (intL imm))).run Try.prog wx = .ok (.string (ba TP)) wx := cat_bb (P := Try.prog) [46, 43] _ TP hTP (by simp; omega)
  obtain ⟨TN, hTN⟩ : ∃ I : List UInt8, I = [46] ++ intL imm := ⟨_, rfl⟩
  have hcatN : ∀ wx : World, (Op.stringOp .add { data := #[46] } (ba (intL imm))).run Try.prog wx = .ok (.string (ba TN)) wx := cat_bb (P := Try.prog) [46] _ TN hTN (by simp; omega)
  have bII : I.length ≤ 66 := by rw [hI]; simp; omega
  have bTP : TP.length ≤ 67 := by rw [hTP]; simp; omega
  have bTN : TN.length ≤ 67 := by rw [hTN]; simp; omega
  have HIM := Lib.hid (show immL imm = I from hI.symm)
  have HTP := Lib.hid (fun (h : ¬ imm < 0) => show targetL imm = TP by unfold targetL; rw [if_neg h, hTP])
  have HTN := Lib.hid (fun (h : imm < 0) => show targetL imm = TN by unfold targetL; rw [if_pos h, hTN])
  clear hI hTP hTN
  go_enter Try.func10, Try.ntmps10
  go_wp2_with fail
  refine (HC.out).mono ?_
  rintro e w2 ⟨rfl, hb⟩
  have HB2 := Lib.hid (below_trans HB.out hb)
  have hlt := (HN.out.below hb).lt
  have HN2 := Lib.hid (HN.out.below hb)
  obtain ⟨n0, n1, n2, n3, n4, n5⟩ := blk_instr HN2.out
  clear hb HN HB HC
  go_wp2_with fail
  refine (HII.out _).mono ?_
  rintro e w' ⟨rfl, m1, rfl⟩
  go_wp2_with fail
  refine (HII.out _).mono ?_
  rintro e w' ⟨rfl, m2, rfl⟩
  clear HTP HTN
  go_wp2_with fail
  refine (rname_21 _).mono ?_
  rintro e w7 ⟨rfl, hb⟩
  have HB7 := Lib.hid (below_trans (below_drewN HB2.out _) hb)
  have HN7 := Lib.hid ((HN2.out.dn _).below hb)
  have hlt7 := HN7.out.lt
  clear hb n0 n1 n2 n3 n4 n5 hlt HB2 HN2
  obtain ⟨n0, n1, n2, n3, n4, n5⟩ := blk_instr HN7.out
  have hkk : kind = 0 ∨ kind = 1 ∨ kind = 2 ∨ kind = 3 ∨ kind = 4 ∨ kind = 5 ∨ kind = 6 ∨ kind = 7 := by have := HRDD.out; unfold rightD at this; omega
  rcases hkk with rfl | rfl | rfl | rfl | rfl | rfl | rfl | rfl
  · have HX := Lib.hid (show printA 21 d n m imm 0 = ([84, 76, 66, 73, 32, 86, 77, 65, 76, 76, 69, 49, 73, 83] : List UInt8) by rw [HP.out]; unfold textA; simp [flushL])
    go_wp2_with fail
    refine (rflush_0 _).mono ?_
    rintro e w8 ⟨rfl, hb⟩
    have HB8 := Lib.hid (below_trans HB7.out hb)
    have HN8 := Lib.hid (HN7.out.below hb)
    clear hb n0 n1 n2 n3 n4 n5
    obtain ⟨n0, n1, n2, n3, n4, n5⟩ := blk_instr HN8.out
    have hlt8 := HN8.out.lt
    go_wp2_with fail
    go_ret
    exact ⟨by rw [HX.out]; kernel_rfl, by repeat (first | exact HB8.out | refine below_drewN ?_ _ | refine Below.drew ?_ | refine below_alloc ?_ _)⟩
  · obtain ⟨A1, hA1⟩ : ∃ A : List UInt8, A = [84, 76, 66, 73, 32, 86, 65, 69, 49, 73, 83, 44] ++ (regL d) := ⟨_, rfl⟩
    have hcat1 : ∀ wx : World, (Op.stringOp .add ({ data := #[84, 76, 66, 73] } ++ { data := #[32] } ++ { data := #[86, 65, 69, 49, 73, 83] } ++ { data := #[44] } : ByteArray) (ba (regL d))).run Try.prog wx = .ok (.string (ba A1)) wx := by
      have hq : ({ data := #[84, 76, 66, 73] } ++ { data := #[32] } ++ { data := #[86, 65, 69, 49, 73, 83] } ++ { data := #[44] } : ByteArray) = ba [84, 76, 66, 73, 32, 86, 65, 69, 49, 73, 83, 44] := by kernel_rfl
      rw [hq]
      exact cat_bb (P := Try.prog) _ _ A1 hA1 (by simp; omega)
    have HX := Lib.hid (show printA 21 d n m imm 1 = A1 by rw [HP.out, hA1]; unfold textA; simp [flushL])
    clear hA1
    go_wp2_with fail
    refine (rflush_1 _).mono ?_
    rintro e w8 ⟨rfl, hb⟩
    have HB8 := Lib.hid (below_trans HB7.out hb)
    have HN8 := Lib.hid (HN7.out.below hb)
    clear hb n0 n1 n2 n3 n4 n5
    obtain ⟨n0, n1, n2, n3, n4, n5⟩ := blk_instr HN8.out
    have hlt8 := HN8.out.lt
    go_wp2_with fail
    refine (HRd.out _).mono ?_
    rintro e w' ⟨rfl, md, rfl⟩
    go_wp2_with fail
    go_ret
    exact ⟨by rw [HX.out]; rfl, by repeat (first | exact HB8.out | refine below_drewN ?_ _ | refine Below.drew ?_ | refine below_alloc ?_ _)⟩
  · obtain ⟨A1, hA1⟩ : ∃ A : List UInt8, A = [84, 76, 66, 73, 32, 86, 65, 65, 69, 49, 73, 83, 44] ++ (regL d) := ⟨_, rfl⟩
    have hcat1 : ∀ wx : World, (Op.stringOp .add ({ data := #[84, 76, 66, 73] } ++ { data := #[32] } ++ { data := #[86, 65, 65, 69, 49, 73, 83] } ++ { data := #[44] } : ByteArray) (ba (regL d))).run Try.prog wx = .ok (.string (ba A1)) wx := by
      have hq : ({ data := #[84, 76, 66, 73] } ++ { data := #[32] } ++ { data := #[86, 65, 65, 69, 49, 73, 83] } ++ { data := #[44] } : ByteArray) = ba [84, 76, 66, 73, 32, 86, 65, 65, 69, 49, 73, 83, 44] := by kernel_rfl
      rw [hq]
      exact cat_bb (P := Try.prog) _ _ A1 hA1 (by simp; omega)
    have HX := Lib.hid (show printA 21 d n m imm 2 = A1 by rw [HP.out, hA1]; unfold textA; simp [flushL])
    clear hA1
    go_wp2_with fail
    refine (rflush_2 _).mono ?_
    rintro e w8 ⟨rfl, hb⟩
    have HB8 := Lib.hid (below_trans HB7.out hb)
    have HN8 := Lib.hid (HN7.out.below hb)
    clear hb n0 n1 n2 n3 n4 n5
    obtain ⟨n0, n1, n2, n3, n4, n5⟩ := blk_instr HN8.out
    have hlt8 := HN8.out.lt
    go_wp2_with fail
    refine (HRd.out _).mono ?_
    rintro e w' ⟨rfl, md, rfl⟩
    go_wp2_with fail
    go_ret
    exact ⟨by rw [HX.out]; rfl, by repeat (first | exact HB8.out | refine below_drewN ?_ _ | refine Below.drew ?_ | refine below_alloc ?_ _)⟩
  · obtain ⟨A1, hA1⟩ : ∃ A : List UInt8, A = [84, 76, 66, 73, 32, 65, 83, 73, 68, 69, 49, 73, 83, 44] ++ (regL d) := ⟨_, rfl⟩
    have hcat1 : ∀ wx : World, (Op.stringOp .add ({ data := #[84, 76, 66, 73] } ++ { data := #[32] } ++ { data := #[65, 83, 73, 68, 69, 49, 73, 83] } ++ { data := #[44] } : ByteArray) (ba (regL d))).run Try.prog wx = .ok (.string (ba A1)) wx := by
      have hq : ({ data := #[84, 76, 66, 73] } ++ { data := #[32] } ++ { data := #[65, 83, 73, 68, 69, 49, 73, 83] } ++ { data := #[44] } : ByteArray) = ba [84, 76, 66, 73, 32, 65, 83, 73, 68, 69, 49, 73, 83, 44] := by kernel_rfl
      rw [hq]
      exact cat_bb (P := Try.prog) _ _ A1 hA1 (by simp; omega)
    have HX := Lib.hid (show printA 21 d n m imm 3 = A1 by rw [HP.out, hA1]; unfold textA; simp [flushL])
    clear hA1
    go_wp2_with fail
    refine (rflush_3 _).mono ?_
    rintro e w8 ⟨rfl, hb⟩
    have HB8 := Lib.hid (below_trans HB7.out hb)
    have HN8 := Lib.hid (HN7.out.below hb)
    clear hb n0 n1 n2 n3 n4 n5
    obtain ⟨n0, n1, n2, n3, n4, n5⟩ := blk_instr HN8.out
    have hlt8 := HN8.out.lt
    go_wp2_with fail
    refine (HRd.out _).mono ?_
    rintro e w' ⟨rfl, md, rfl⟩
    go_wp2_with fail
    go_ret
    exact ⟨by rw [HX.out]; rfl, by repeat (first | exact HB8.out | refine below_drewN ?_ _ | refine Below.drew ?_ | refine below_alloc ?_ _)⟩
  · have HX := Lib.hid (show printA 21 d n m imm 4 = ([84, 76, 66, 73, 32, 86, 77, 65, 76, 76, 69, 49] : List UInt8) by rw [HP.out]; unfold textA; simp [flushL])
    go_wp2_with fail
    refine (rflush_4 _).mono ?_
    rintro e w8 ⟨rfl, hb⟩
    have HB8 := Lib.hid (below_trans HB7.out hb)
    have HN8 := Lib.hid (HN7.out.below hb)
    clear hb n0 n1 n2 n3 n4 n5
    obtain ⟨n0, n1, n2, n3, n4, n5⟩ := blk_instr HN8.out
    have hlt8 := HN8.out.lt
    go_wp2_with fail
    go_ret
    exact ⟨by rw [HX.out]; kernel_rfl, by repeat (first | exact HB8.out | refine below_drewN ?_ _ | refine Below.drew ?_ | refine below_alloc ?_ _)⟩
  · obtain ⟨A1, hA1⟩ : ∃ A : List UInt8, A = [84, 76, 66, 73, 32, 86, 65, 69, 49, 44] ++ (regL d) := ⟨_, rfl⟩
    have hcat1 : ∀ wx : World, (Op.stringOp .add ({ data := #[84, 76, 66, 73] } ++ { data := #[32] } ++ { data := #[86, 65, 69, 49] } ++ { data := #[44] } : ByteArray) (ba (regL d))).run Try.prog wx = .ok (.string (ba A1)) wx := by
      have hq : ({ data := #[84, 76, 66, 73] } ++ { data := #[32] } ++ { data := #[86, 65, 69, 49] } ++ { data := #[44] } : ByteArray) = ba [84, 76, 66, 73, 32, 86, 65, 69, 49, 44] := by kernel_rfl
      rw [hq]
      exact cat_bb (P := Try.prog) _ _ A1 hA1 (by simp; omega)
    have HX := Lib.hid (show printA 21 d n m imm 5 = A1 by rw [HP.out, hA1]; unfold textA; simp [flushL])
    clear hA1
    go_wp2_with fail
    refine (rflush_5 _).mono ?_
    rintro e w8 ⟨rfl, hb⟩
    have HB8 := Lib.hid (below_trans HB7.out hb)
    have HN8 := Lib.hid (HN7.out.below hb)
    clear hb n0 n1 n2 n3 n4 n5
    obtain ⟨n0, n1, n2, n3, n4, n5⟩ := blk_instr HN8.out
    have hlt8 := HN8.out.lt
    go_wp2_with fail
    refine (HRd.out _).mono ?_
    rintro e w' ⟨rfl, md, rfl⟩
    go_wp2_with fail
    go_ret
    exact ⟨by rw [HX.out]; rfl, by repeat (first | exact HB8.out | refine below_drewN ?_ _ | refine Below.drew ?_ | refine below_alloc ?_ _)⟩
  · obtain ⟨A1, hA1⟩ : ∃ A : List UInt8, A = [84, 76, 66, 73, 32, 86, 65, 65, 69, 49, 44] ++ (regL d) := ⟨_, rfl⟩
    have hcat1 : ∀ wx : World, (Op.stringOp .add ({ data := #[84, 76, 66, 73] } ++ { data := #[32] } ++ { data := #[86, 65, 65, 69, 49] } ++ { data := #[44] } : ByteArray) (ba (regL d))).run Try.prog wx = .ok (.string (ba A1)) wx := by
      have hq : ({ data := #[84, 76, 66, 73] } ++ { data := #[32] } ++ { data := #[86, 65, 65, 69, 49] } ++ { data := #[44] } : ByteArray) = ba [84, 76, 66, 73, 32, 86, 65, 65, 69, 49, 44] := by kernel_rfl
      rw [hq]
      exact cat_bb (P := Try.prog) _ _ A1 hA1 (by simp; omega)
    have HX := Lib.hid (show printA 21 d n m imm 6 = A1 by rw [HP.out, hA1]; unfold textA; simp [flushL])
    clear hA1
    go_wp2_with fail
    refine (rflush_6 _).mono ?_
    rintro e w8 ⟨rfl, hb⟩
    have HB8 := Lib.hid (below_trans HB7.out hb)
    have HN8 := Lib.hid (HN7.out.below hb)
    clear hb n0 n1 n2 n3 n4 n5
    obtain ⟨n0, n1, n2, n3, n4, n5⟩ := blk_instr HN8.out
    have hlt8 := HN8.out.lt
    go_wp2_with fail
    refine (HRd.out _).mono ?_
    rintro e w' ⟨rfl, md, rfl⟩
    go_wp2_with fail
    go_ret
    exact ⟨by rw [HX.out]; rfl, by repeat (first | exact HB8.out | refine below_drewN ?_ _ | refine Below.drew ?_ | refine below_alloc ?_ _)⟩
  · obtain ⟨A1, hA1⟩ : ∃ A : List UInt8, A = [84, 76, 66, 73, 32, 65, 83, 73, 68, 69, 49, 44] ++ (regL d) := ⟨_, rfl⟩
    have hcat1 : ∀ wx : World, (Op.stringOp .add ({ data := #[84, 76, 66, 73] } ++ { data := #[32] } ++ { data := #[65, 83, 73, 68, 69, 49] } ++ { data := #[44] } : ByteArray) (ba (regL d))).run Try.prog wx = .ok (.string (ba A1)) wx := by
      have hq : ({ data := #[84, 76, 66, 73] } ++ { data := #[32] } ++ { data := #[65, 83, 73, 68, 69, 49] } ++ { data := #[44] } : ByteArray) = ba [84, 76, 66, 73, 32, 65, 83, 73, 68, 69, 49, 44] := by kernel_rfl
      rw [hq]
      exact cat_bb (P := Try.prog) _ _ A1 hA1 (by simp; omega)
    have HX := Lib.hid (show printA 21 d n m imm 7 = A1 by rw [HP.out, hA1]; unfold textA; simp [flushL])
    clear hA1
    go_wp2_with fail
    refine (rflush_7 _).mono ?_
    rintro e w8 ⟨rfl, hb⟩
    have HB8 := Lib.hid (below_trans HB7.out hb)
    have HN8 := Lib.hid (HN7.out.below hb)
    clear hb n0 n1 n2 n3 n4 n5
    obtain ⟨n0, n1, n2, n3, n4, n5⟩ := blk_instr HN8.out
    have hlt8 := HN8.out.lt
    go_wp2_with fail
    refine (HRd.out _).mono ?_
    rintro e w' ⟨rfl, md, rfl⟩
    go_wp2_with fail
    go_ret
    exact ⟨by rw [HX.out]; rfl, by repeat (first | exact HB8.out | refine below_drewN ?_ _ | refine Below.drew ?_ | refine below_alloc ?_ _)⟩
set_option maxRecDepth 100000 in
set_option maxHeartbeats 6400000 in
theorem rpr_22 (d n m imm kind : Int) (w : World) (hr : rightP 22 d n m imm kind) :
    Calls Try.prog 10 #[instrW 22 d n m imm kind] w fun e w' => e = .returned (.string (ba (printA 22 d n m imm kind))) ∧ Below w.heap.size w w' := by
  have HB := Lib.hid (below_alloc (Below.refl w.heap.size w) (.cells #[.int .i64 22, .int .i64 d, .int .i64 n, .int .i64 m, .int .i64 imm, .int .i64 kind] 23))
  have HN := Lib.hid (own_instr w 22 d n m imm kind)
  have HC := Lib.hid (right3_any 22 d n m imm kind (w.alloc (.cells #[.int .i64 22, .int .i64 d, .int .i64 n, .int .i64 m, .int .i64 imm, .int .i64 kind] 23)))
  rw [right_yes hr] at HC
  have HP := Lib.hid (show printA 22 d n m imm kind = textA 22 d n m imm kind from if_pos hr)
  obtain ⟨⟨hop, hd, hn, hm⟩, hB, hCC, hDD⟩ := hr
  have hi : I64 imm := by unfold rightB at hB; unfold rightC at hCC; constructor <;> omega
  have hneg : ¬ imm < 0 := by unfold rightB at hB; unfold rightC at hCC; omega
  have HRC := Lib.hid hCC
  have HRDD := Lib.hid hDD
  clear hB hCC hDD
  have HII := Lib.hid (fun w1 => rint_any imm w1 hi)
  have HRd := Lib.hid (fun w1 => rreg_any d w1 (by omega))
  have HRn := Lib.hid (fun w1 => rreg_any n w1 (by omega))
  have HRm := Lib.hid (fun w1 => rreg_any m w1 (by omega))
  have bI := intL_len imm hi
  have bD := regL_len d (by constructor <;> omega)
  have bN := regL_len n (by constructor <;> omega)
  have bM := regL_len m (by constructor <;> omega)
  obtain ⟨I, hI⟩ : ∃ I : List UInt8, I = [35] ++ intL imm := ⟨_, rfl⟩
  have hcatI : ∀ wx : World, (Op.stringOp .add { data := #[35] } (ba (intL imm))).run Try.prog wx = .ok (.string (ba I)) wx := cat_bb (P := Try.prog) [35] _ I hI (by simp; omega)
  obtain ⟨TP, hTP⟩ : ∃ I : List UInt8, I = [46, 43] ++ intL imm := ⟨_, rfl⟩
  have hcatP : ∀ wx : World, (Op.stringOp .add { data := #[46, 43] } (ba (intL imm))).run Try.prog wx = .ok (.string (ba TP)) wx := cat_bb (P := Try.prog) [46, 43] _ TP hTP (by simp; omega)
  obtain ⟨TN, hTN⟩ : ∃ I : List UInt8, I = [46] ++ intL imm := ⟨_, rfl⟩
  have hcatN : ∀ wx : World, (Op.stringOp .add { data := #[46] } (ba (intL imm))).run Try.prog wx = .ok (.string (ba TN)) wx := cat_bb (P := Try.prog) [46] _ TN hTN (by simp; omega)
  have bII : I.length ≤ 66 := by rw [hI]; simp; omega
  have bTP : TP.length ≤ 67 := by rw [hTP]; simp; omega
  have bTN : TN.length ≤ 67 := by rw [hTN]; simp; omega
  have HIM := Lib.hid (show immL imm = I from hI.symm)
  have HTP := Lib.hid (fun (h : ¬ imm < 0) => show targetL imm = TP by unfold targetL; rw [if_neg h, hTP])
  have HTN := Lib.hid (fun (h : imm < 0) => show targetL imm = TN by unfold targetL; rw [if_pos h, hTN])
  clear hI hTP hTN
  go_enter Try.func10, Try.ntmps10
  go_wp2_with fail
  refine (HC.out).mono ?_
  rintro e w2 ⟨rfl, hb⟩
  have HB2 := Lib.hid (below_trans HB.out hb)
  have hlt := (HN.out.below hb).lt
  have HN2 := Lib.hid (HN.out.below hb)
  obtain ⟨n0, n1, n2, n3, n4, n5⟩ := blk_instr HN2.out
  clear hb HN HB HC
  go_wp2_with fail
  refine (HII.out _).mono ?_
  rintro e w' ⟨rfl, m1, rfl⟩
  go_wp2_with fail
  refine (HII.out _).mono ?_
  rintro e w' ⟨rfl, m2, rfl⟩
  clear HTP HTN
  go_wp2_with fail
  refine (rname_22 _).mono ?_
  rintro e w7 ⟨rfl, hb⟩
  have HB7 := Lib.hid (below_trans (below_drewN HB2.out _) hb)
  have HN7 := Lib.hid ((HN2.out.dn _).below hb)
  have hlt7 := HN7.out.lt
  clear hb n0 n1 n2 n3 n4 n5 hlt HB2 HN2
  obtain ⟨n0, n1, n2, n3, n4, n5⟩ := blk_instr HN7.out
  have HX := Lib.hid (show printA 22 d n m imm kind = ([69, 82, 69, 84] : List UInt8) by rw [HP.out]; unfold textA; simp [nameL])
  go_wp2_with fail
  go_ret
  exact ⟨by rw [HX.out]; rfl, by repeat (first | exact HB7.out | refine below_drewN ?_ _ | refine Below.drew ?_ | refine below_alloc ?_ _)⟩
set_option maxRecDepth 100000 in
set_option maxHeartbeats 6400000 in
theorem rpr_23 (d n m imm kind : Int) (w : World) (hr : rightP 23 d n m imm kind) :
    Calls Try.prog 10 #[instrW 23 d n m imm kind] w fun e w' => e = .returned (.string (ba (printA 23 d n m imm kind))) ∧ Below w.heap.size w w' := by
  have HB := Lib.hid (below_alloc (Below.refl w.heap.size w) (.cells #[.int .i64 23, .int .i64 d, .int .i64 n, .int .i64 m, .int .i64 imm, .int .i64 kind] 23))
  have HN := Lib.hid (own_instr w 23 d n m imm kind)
  have HC := Lib.hid (right3_any 23 d n m imm kind (w.alloc (.cells #[.int .i64 23, .int .i64 d, .int .i64 n, .int .i64 m, .int .i64 imm, .int .i64 kind] 23)))
  rw [right_yes hr] at HC
  have HP := Lib.hid (show printA 23 d n m imm kind = textA 23 d n m imm kind from if_pos hr)
  obtain ⟨⟨hop, hd, hn, hm⟩, hB, hCC, hDD⟩ := hr
  have hi : I64 imm := by unfold rightB at hB; unfold rightC at hCC; constructor <;> omega
  have hneg : ¬ imm < 0 := by unfold rightB at hB; unfold rightC at hCC; omega
  have HRC := Lib.hid hCC
  have HRDD := Lib.hid hDD
  clear hB hCC hDD
  have HII := Lib.hid (fun w1 => rint_any imm w1 hi)
  have HRd := Lib.hid (fun w1 => rreg_any d w1 (by omega))
  have HRn := Lib.hid (fun w1 => rreg_any n w1 (by omega))
  have HRm := Lib.hid (fun w1 => rreg_any m w1 (by omega))
  have bI := intL_len imm hi
  have bD := regL_len d (by constructor <;> omega)
  have bN := regL_len n (by constructor <;> omega)
  have bM := regL_len m (by constructor <;> omega)
  obtain ⟨I, hI⟩ : ∃ I : List UInt8, I = [35] ++ intL imm := ⟨_, rfl⟩
  have hcatI : ∀ wx : World, (Op.stringOp .add { data := #[35] } (ba (intL imm))).run Try.prog wx = .ok (.string (ba I)) wx := cat_bb (P := Try.prog) [35] _ I hI (by simp; omega)
  obtain ⟨TP, hTP⟩ : ∃ I : List UInt8, I = [46, 43] ++ intL imm := ⟨_, rfl⟩
  have hcatP : ∀ wx : World, (Op.stringOp .add { data := #[46, 43] } (ba (intL imm))).run Try.prog wx = .ok (.string (ba TP)) wx := cat_bb (P := Try.prog) [46, 43] _ TP hTP (by simp; omega)
  obtain ⟨TN, hTN⟩ : ∃ I : List UInt8, I = [46] ++ intL imm := ⟨_, rfl⟩
  have hcatN : ∀ wx : World, (Op.stringOp .add { data := #[46] } (ba (intL imm))).run Try.prog wx = .ok (.string (ba TN)) wx := cat_bb (P := Try.prog) [46] _ TN hTN (by simp; omega)
  have bII : I.length ≤ 66 := by rw [hI]; simp; omega
  have bTP : TP.length ≤ 67 := by rw [hTP]; simp; omega
  have bTN : TN.length ≤ 67 := by rw [hTN]; simp; omega
  have HIM := Lib.hid (show immL imm = I from hI.symm)
  have HTP := Lib.hid (fun (h : ¬ imm < 0) => show targetL imm = TP by unfold targetL; rw [if_neg h, hTP])
  have HTN := Lib.hid (fun (h : imm < 0) => show targetL imm = TN by unfold targetL; rw [if_pos h, hTN])
  clear hI hTP hTN
  go_enter Try.func10, Try.ntmps10
  go_wp2_with fail
  refine (HC.out).mono ?_
  rintro e w2 ⟨rfl, hb⟩
  have HB2 := Lib.hid (below_trans HB.out hb)
  have hlt := (HN.out.below hb).lt
  have HN2 := Lib.hid (HN.out.below hb)
  obtain ⟨n0, n1, n2, n3, n4, n5⟩ := blk_instr HN2.out
  clear hb HN HB HC
  go_wp2_with fail
  refine (HII.out _).mono ?_
  rintro e w' ⟨rfl, m1, rfl⟩
  go_wp2_with fail
  refine (HII.out _).mono ?_
  rintro e w' ⟨rfl, m2, rfl⟩
  clear HTP HTN
  go_wp2_with fail
  refine (rname_23 _).mono ?_
  rintro e w7 ⟨rfl, hb⟩
  have HB7 := Lib.hid (below_trans (below_drewN HB2.out _) hb)
  have HN7 := Lib.hid ((HN2.out.dn _).below hb)
  have hlt7 := HN7.out.lt
  clear hb n0 n1 n2 n3 n4 n5 hlt HB2 HN2
  obtain ⟨n0, n1, n2, n3, n4, n5⟩ := blk_instr HN7.out
  have hkk : kind = 0 ∨ kind = 1 ∨ kind = 2 := by have := HRDD.out; unfold rightD at this; omega
  rcases hkk with rfl | rfl | rfl
  · obtain ⟨A1, hA1⟩ : ∃ A : List UInt8, A = [77, 82, 83, 32] ++ (regL d) := ⟨_, rfl⟩
    have hcat1 : ∀ wx : World, (Op.stringOp .add ({ data := #[77, 82, 83] } ++ { data := #[32] } : ByteArray) (ba (regL d))).run Try.prog wx = .ok (.string (ba A1)) wx := by
      have hq : ({ data := #[77, 82, 83] } ++ { data := #[32] } : ByteArray) = ba [77, 82, 83, 32] := by kernel_rfl
      rw [hq]
      exact cat_bb (P := Try.prog) _ _ A1 hA1 (by simp; omega)
    obtain ⟨A2, hA2⟩ : ∃ A : List UInt8, A = A1 ++ [44] := ⟨_, rfl⟩
    have hcat2 : ∀ wx : World, (Op.stringOp .add (ba A1) { data := #[44] }).run Try.prog wx = .ok (.string (ba A2)) wx := cat_bb (P := Try.prog) _ _ A2 hA2 (by rw [hA1]; simp; omega)
    obtain ⟨A3, hA3⟩ : ∃ A : List UInt8, A = A2 ++ [69, 83, 82, 95, 69, 76, 49] := ⟨_, rfl⟩
    have hcat3 : ∀ wx : World, (Op.stringOp .add (ba A2) { data := #[69, 83, 82, 95, 69, 76, 49] }).run Try.prog wx = .ok (.string (ba A3)) wx := cat_bb (P := Try.prog) _ _ A3 hA3 (by rw [hA2]; rw [hA1]; simp; omega)
    have HX := Lib.hid (show printA 23 d n m imm 0 = A3 by rw [HP.out, hA3, hA2, hA1]; unfold textA; simp [sysL])
    clear hA1 hA2 hA3
    go_wp2_with fail
    have HNL := Lib.hid (show Blk (w7.alloc (.cells #[.string { data := #[69, 83, 82, 95, 69, 76, 49] }, .string { data := #[70, 65, 82, 95, 69, 76, 49] }, .string { data := #[69, 76, 82, 95, 69, 76, 49] }] 9)) 9 w7.heap.size [.string { data := #[69, 83, 82, 95, 69, 76, 49] }, .string { data := #[70, 65, 82, 95, 69, 76, 49] }, .string { data := #[69, 76, 82, 95, 69, 76, 49] }] from Blk.new _ _ _)
    have HN8 := Lib.hid (HN7.out.below (below_alloc (Below.refl w7.heap.size w7) (.cells #[.string { data := #[69, 83, 82, 95, 69, 76, 49] }, .string { data := #[70, 65, 82, 95, 69, 76, 49] }, .string { data := #[69, 76, 82, 95, 69, 76, 49] }] 9)))
    clear n0 n1 n2 n3 n4 n5
    obtain ⟨n0, n1, n2, n3, n4, n5⟩ := blk_instr HN8.out
    have n6 : (w7.alloc (.cells #[.string { data := #[69, 83, 82, 95, 69, 76, 49] }, .string { data := #[70, 65, 82, 95, 69, 76, 49] }, .string { data := #[69, 76, 82, 95, 69, 76, 49] }] 9)).cell? ⟨w7.heap.size, 0, none⟩ = some (.string { data := #[69, 83, 82, 95, 69, 76, 49] }) := HNL.out.cell 0
    refine wp_region_held_drew (S := (fun w' => w'.cell? ⟨w.heap.size, 0, none⟩ = some (.int .i64 23) ∧ w'.cell? ⟨w.heap.size, 1, none⟩ = some (.int .i64 d) ∧ w'.cell? ⟨w.heap.size, 2, none⟩ = some (.int .i64 n) ∧ w'.cell? ⟨w.heap.size, 3, none⟩ = some (.int .i64 m) ∧ w'.cell? ⟨w.heap.size, 4, none⟩ = some (.int .i64 imm) ∧ w'.cell? ⟨w.heap.size, 5, none⟩ = some (.int .i64 0) ∧ w'.cell? ⟨w7.heap.size, 0, none⟩ = some (.string { data := #[69, 83, 82, 95, 69, 76, 49] }))) (by kernel_rfl) (by (try dsimp only); exact ⟨n0, n1, n2, n3, n4, n5, n6⟩) (fun hHeld => ?_)
    refine wpAnyH_take (i := 0) (oi := ⟨some 159, _, _, _, _, _⟩) (v := ?_) rfl (by kernel_rfl) (by kernel_rfl) (by kernel_rfl) (fun _ _ _ h => h) (Or.inl ⟨by rfl, ?_⟩) (by assumption) ?_
    rotate_left
    · (intro w hSw; (try dsimp only at hSw); go_simp; try with_reducible rfl)
    simp only [Act.put, List.setIfInBounds_toArray, List.set_cons_zero, List.set_cons_succ]
    refine wpAnyH_take (i := 1) (oi := ⟨some 160, _, _, _, _, _⟩) (v := ?_) rfl (by kernel_rfl) (by kernel_rfl) (by kernel_rfl) (fun _ _ _ h => h) (Or.inl ⟨by rfl, ?_⟩) (by assumption) ?_
    rotate_left
    · (intro w hSw; (try dsimp only at hSw); go_simp; try with_reducible rfl)
    simp only [Act.put, List.setIfInBounds_toArray, List.set_cons_zero, List.set_cons_succ]
    refine wpAnyH_take (i := 2) (oi := ⟨some 161, _, _, _, _, _⟩) (v := ?_) rfl (by kernel_rfl) (by kernel_rfl) (by kernel_rfl) (fun _ _ _ h => h) (Or.inl ⟨by rfl, ?_⟩) (by assumption) ?_
    rotate_left
    · (intro w hSw; (try dsimp only at hSw); go_simp; try with_reducible rfl)
    simp only [Act.put, List.setIfInBounds_toArray, List.set_cons_zero, List.set_cons_succ]
    refine wpAnyH_take (i := 3) (oi := ⟨some 162, _, _, _, _, _⟩) (v := ?_) rfl (by kernel_rfl) (by kernel_rfl) (by kernel_rfl) (fun _ _ _ h => h) (Or.inl ⟨by rfl, ?_⟩) (by assumption) ?_
    rotate_left
    · (intro w hSw; (try dsimp only at hSw); go_simp; try with_reducible rfl)
    simp only [Act.put, List.setIfInBounds_toArray, List.set_cons_zero, List.set_cons_succ]
    refine wpAnyH_take (i := 7) (oi := ⟨some 166, _, _, _, _, _⟩) (v := ?_) rfl (by kernel_rfl) (by kernel_rfl) (by kernel_rfl) (fun _ _ _ h => h) (Or.inl ⟨by rfl, ?_⟩) (by assumption) ?_
    rotate_left
    · (intro w hSw; (try dsimp only at hSw); go_simp; try with_reducible rfl)
    simp only [Act.put, List.setIfInBounds_toArray, List.set_cons_zero, List.set_cons_succ]
    refine wpAnyH_take (i := 8) (oi := ⟨some 167, _, _, _, _, _⟩) (v := ?_) rfl (by kernel_rfl) (by kernel_rfl) (by kernel_rfl) (fun _ _ _ h => h) (Or.inl ⟨by rfl, ?_⟩) (by assumption) ?_
    rotate_left
    · (intro w hSw; (try dsimp only at hSw); go_simp; try with_reducible rfl)
    simp only [Act.put, List.setIfInBounds_toArray, List.set_cons_zero, List.set_cons_succ]
    refine wpAnyH_take (i := 9) (oi := ⟨some 168, _, _, _, _, _⟩) (v := ?_) rfl (by kernel_rfl) (by kernel_rfl) (by kernel_rfl) (fun _ _ _ h => h) (Or.inl ⟨by rfl, ?_⟩) (by assumption) ?_
    rotate_left
    · (intro w hSw; (try dsimp only at hSw); go_simp; try with_reducible rfl)
    simp only [Act.put, List.setIfInBounds_toArray, List.set_cons_zero, List.set_cons_succ]
    refine wpAnyH_take (i := 10) (oi := ⟨some 169, _, _, _, _, _⟩) (v := ?_) rfl (by kernel_rfl) (by kernel_rfl) (by kernel_rfl) (fun _ _ _ h => h) (Or.inl ⟨by rfl, ?_⟩) (by assumption) ?_
    rotate_left
    · (intro w hSw; (try dsimp only at hSw); go_simp; try with_reducible rfl)
    simp only [Act.put, List.setIfInBounds_toArray, List.set_cons_zero, List.set_cons_succ]
    refine wpAnyH_take (i := 11) (oi := ⟨some 170, _, _, _, _, _⟩) (v := ?_) rfl (by kernel_rfl) (by kernel_rfl) (by kernel_rfl) (fun _ _ _ h => h) (Or.inl ⟨by rfl, ?_⟩) (by assumption) ?_
    rotate_left
    · (intro w hSw; (try dsimp only at hSw); go_simp; try with_reducible rfl)
    simp only [Act.put, List.setIfInBounds_toArray, List.set_cons_zero, List.set_cons_succ]
    refine wpAnyH_ready (rs := [4]) (by kernel_rfl) (by simp) ?_
    refine AllReadyH.cons (o := ⟨some 163, _, _, _, _, _⟩) rfl (fun K hK => ?_) AllReadyH.nil
    go_simp
    go_at_call 16; refine (HRd.out _).mono ?_; rintro e w' ⟨rfl, md, rfl⟩
    refine hK.out _ _ (by (try dsimp only); exact ⟨n0, n1, n2, n3, n4, n5, n6⟩) ?_
    clear hK K hHeld
    intro hHeld
    try simp only [Act.put, List.setIfInBounds_toArray, List.set_cons_zero, List.set_cons_succ]
    refine wpAnyH_take (i := 5) (oi := ⟨some 164, _, _, _, _, _⟩) (v := ?_) rfl (by kernel_rfl) (by kernel_rfl) (by kernel_rfl) (fun _ _ _ h => h) (Or.inl ⟨by rfl, ?_⟩) (by assumption) ?_
    rotate_left
    · (intro w hSw; (try dsimp only at hSw); go_simp; try with_reducible rfl)
    simp only [Act.put, List.setIfInBounds_toArray, List.set_cons_zero, List.set_cons_succ]
    refine wpAnyH_take (i := 6) (oi := ⟨some 165, _, _, _, _, _⟩) (v := ?_) rfl (by kernel_rfl) (by kernel_rfl) (by kernel_rfl) (fun _ _ _ h => h) (Or.inl ⟨by rfl, ?_⟩) (by assumption) ?_
    rotate_left
    · (intro w hSw; (try dsimp only at hSw); go_simp; try with_reducible rfl)
    simp only [Act.put, List.setIfInBounds_toArray, List.set_cons_zero, List.set_cons_succ]
    refine wpAnyH_take (i := 12) (oi := ⟨some 171, _, _, _, _, _⟩) (v := ?_) rfl (by kernel_rfl) (by kernel_rfl) (by kernel_rfl) (fun _ _ _ h => h) (Or.inl ⟨by rfl, ?_⟩) (by assumption) ?_
    rotate_left
    · (intro w hSw; (try dsimp only at hSw); go_simp; try with_reducible rfl)
    simp only [Act.put, List.setIfInBounds_toArray, List.set_cons_zero, List.set_cons_succ]
    refine wpAnyH_take (i := 13) (oi := ⟨some 2, _, _, _, _, _⟩) (v := ?_) rfl (by kernel_rfl) (by kernel_rfl) (by kernel_rfl) (fun _ _ _ h => h) (Or.inl ⟨by rfl, ?_⟩) (by assumption) ?_
    rotate_left
    · (intro w hSw; (try dsimp only at hSw); go_simp; try with_reducible rfl)
    simp only [Act.put, List.setIfInBounds_toArray, List.set_cons_zero, List.set_cons_succ]
    refine wpAnyH_done (by kernel_rfl) ?_ _
    go_wp2_with fail
    go_ret
    exact ⟨by rw [HX.out]; rfl, by repeat (first | exact HB7.out | refine below_drewN ?_ _ | refine Below.drew ?_ | refine below_alloc ?_ _)⟩
  · obtain ⟨A1, hA1⟩ : ∃ A : List UInt8, A = [77, 82, 83, 32] ++ (regL d) := ⟨_, rfl⟩
    have hcat1 : ∀ wx : World, (Op.stringOp .add ({ data := #[77, 82, 83] } ++ { data := #[32] } : ByteArray) (ba (regL d))).run Try.prog wx = .ok (.string (ba A1)) wx := by
      have hq : ({ data := #[77, 82, 83] } ++ { data := #[32] } : ByteArray) = ba [77, 82, 83, 32] := by kernel_rfl
      rw [hq]
      exact cat_bb (P := Try.prog) _ _ A1 hA1 (by simp; omega)
    obtain ⟨A2, hA2⟩ : ∃ A : List UInt8, A = A1 ++ [44] := ⟨_, rfl⟩
    have hcat2 : ∀ wx : World, (Op.stringOp .add (ba A1) { data := #[44] }).run Try.prog wx = .ok (.string (ba A2)) wx := cat_bb (P := Try.prog) _ _ A2 hA2 (by rw [hA1]; simp; omega)
    obtain ⟨A3, hA3⟩ : ∃ A : List UInt8, A = A2 ++ [70, 65, 82, 95, 69, 76, 49] := ⟨_, rfl⟩
    have hcat3 : ∀ wx : World, (Op.stringOp .add (ba A2) { data := #[70, 65, 82, 95, 69, 76, 49] }).run Try.prog wx = .ok (.string (ba A3)) wx := cat_bb (P := Try.prog) _ _ A3 hA3 (by rw [hA2]; rw [hA1]; simp; omega)
    have HX := Lib.hid (show printA 23 d n m imm 1 = A3 by rw [HP.out, hA3, hA2, hA1]; unfold textA; simp [sysL])
    clear hA1 hA2 hA3
    go_wp2_with fail
    have HNL := Lib.hid (show Blk (w7.alloc (.cells #[.string { data := #[69, 83, 82, 95, 69, 76, 49] }, .string { data := #[70, 65, 82, 95, 69, 76, 49] }, .string { data := #[69, 76, 82, 95, 69, 76, 49] }] 9)) 9 w7.heap.size [.string { data := #[69, 83, 82, 95, 69, 76, 49] }, .string { data := #[70, 65, 82, 95, 69, 76, 49] }, .string { data := #[69, 76, 82, 95, 69, 76, 49] }] from Blk.new _ _ _)
    have HN8 := Lib.hid (HN7.out.below (below_alloc (Below.refl w7.heap.size w7) (.cells #[.string { data := #[69, 83, 82, 95, 69, 76, 49] }, .string { data := #[70, 65, 82, 95, 69, 76, 49] }, .string { data := #[69, 76, 82, 95, 69, 76, 49] }] 9)))
    clear n0 n1 n2 n3 n4 n5
    obtain ⟨n0, n1, n2, n3, n4, n5⟩ := blk_instr HN8.out
    have n6 : (w7.alloc (.cells #[.string { data := #[69, 83, 82, 95, 69, 76, 49] }, .string { data := #[70, 65, 82, 95, 69, 76, 49] }, .string { data := #[69, 76, 82, 95, 69, 76, 49] }] 9)).cell? ⟨w7.heap.size, 1, none⟩ = some (.string { data := #[70, 65, 82, 95, 69, 76, 49] }) := HNL.out.cell 1
    refine wp_region_held_drew (S := (fun w' => w'.cell? ⟨w.heap.size, 0, none⟩ = some (.int .i64 23) ∧ w'.cell? ⟨w.heap.size, 1, none⟩ = some (.int .i64 d) ∧ w'.cell? ⟨w.heap.size, 2, none⟩ = some (.int .i64 n) ∧ w'.cell? ⟨w.heap.size, 3, none⟩ = some (.int .i64 m) ∧ w'.cell? ⟨w.heap.size, 4, none⟩ = some (.int .i64 imm) ∧ w'.cell? ⟨w.heap.size, 5, none⟩ = some (.int .i64 1) ∧ w'.cell? ⟨w7.heap.size, 1, none⟩ = some (.string { data := #[70, 65, 82, 95, 69, 76, 49] }))) (by kernel_rfl) (by (try dsimp only); exact ⟨n0, n1, n2, n3, n4, n5, n6⟩) (fun hHeld => ?_)
    refine wpAnyH_take (i := 0) (oi := ⟨some 159, _, _, _, _, _⟩) (v := ?_) rfl (by kernel_rfl) (by kernel_rfl) (by kernel_rfl) (fun _ _ _ h => h) (Or.inl ⟨by rfl, ?_⟩) (by assumption) ?_
    rotate_left
    · (intro w hSw; (try dsimp only at hSw); go_simp; try with_reducible rfl)
    simp only [Act.put, List.setIfInBounds_toArray, List.set_cons_zero, List.set_cons_succ]
    refine wpAnyH_take (i := 1) (oi := ⟨some 160, _, _, _, _, _⟩) (v := ?_) rfl (by kernel_rfl) (by kernel_rfl) (by kernel_rfl) (fun _ _ _ h => h) (Or.inl ⟨by rfl, ?_⟩) (by assumption) ?_
    rotate_left
    · (intro w hSw; (try dsimp only at hSw); go_simp; try with_reducible rfl)
    simp only [Act.put, List.setIfInBounds_toArray, List.set_cons_zero, List.set_cons_succ]
    refine wpAnyH_take (i := 2) (oi := ⟨some 161, _, _, _, _, _⟩) (v := ?_) rfl (by kernel_rfl) (by kernel_rfl) (by kernel_rfl) (fun _ _ _ h => h) (Or.inl ⟨by rfl, ?_⟩) (by assumption) ?_
    rotate_left
    · (intro w hSw; (try dsimp only at hSw); go_simp; try with_reducible rfl)
    simp only [Act.put, List.setIfInBounds_toArray, List.set_cons_zero, List.set_cons_succ]
    refine wpAnyH_take (i := 3) (oi := ⟨some 162, _, _, _, _, _⟩) (v := ?_) rfl (by kernel_rfl) (by kernel_rfl) (by kernel_rfl) (fun _ _ _ h => h) (Or.inl ⟨by rfl, ?_⟩) (by assumption) ?_
    rotate_left
    · (intro w hSw; (try dsimp only at hSw); go_simp; try with_reducible rfl)
    simp only [Act.put, List.setIfInBounds_toArray, List.set_cons_zero, List.set_cons_succ]
    refine wpAnyH_take (i := 7) (oi := ⟨some 166, _, _, _, _, _⟩) (v := ?_) rfl (by kernel_rfl) (by kernel_rfl) (by kernel_rfl) (fun _ _ _ h => h) (Or.inl ⟨by rfl, ?_⟩) (by assumption) ?_
    rotate_left
    · (intro w hSw; (try dsimp only at hSw); go_simp; try with_reducible rfl)
    simp only [Act.put, List.setIfInBounds_toArray, List.set_cons_zero, List.set_cons_succ]
    refine wpAnyH_take (i := 8) (oi := ⟨some 167, _, _, _, _, _⟩) (v := ?_) rfl (by kernel_rfl) (by kernel_rfl) (by kernel_rfl) (fun _ _ _ h => h) (Or.inl ⟨by rfl, ?_⟩) (by assumption) ?_
    rotate_left
    · (intro w hSw; (try dsimp only at hSw); go_simp; try with_reducible rfl)
    simp only [Act.put, List.setIfInBounds_toArray, List.set_cons_zero, List.set_cons_succ]
    refine wpAnyH_take (i := 9) (oi := ⟨some 168, _, _, _, _, _⟩) (v := ?_) rfl (by kernel_rfl) (by kernel_rfl) (by kernel_rfl) (fun _ _ _ h => h) (Or.inl ⟨by rfl, ?_⟩) (by assumption) ?_
    rotate_left
    · (intro w hSw; (try dsimp only at hSw); go_simp; try with_reducible rfl)
    simp only [Act.put, List.setIfInBounds_toArray, List.set_cons_zero, List.set_cons_succ]
    refine wpAnyH_take (i := 10) (oi := ⟨some 169, _, _, _, _, _⟩) (v := ?_) rfl (by kernel_rfl) (by kernel_rfl) (by kernel_rfl) (fun _ _ _ h => h) (Or.inl ⟨by rfl, ?_⟩) (by assumption) ?_
    rotate_left
    · (intro w hSw; (try dsimp only at hSw); go_simp; try with_reducible rfl)
    simp only [Act.put, List.setIfInBounds_toArray, List.set_cons_zero, List.set_cons_succ]
    refine wpAnyH_take (i := 11) (oi := ⟨some 170, _, _, _, _, _⟩) (v := ?_) rfl (by kernel_rfl) (by kernel_rfl) (by kernel_rfl) (fun _ _ _ h => h) (Or.inl ⟨by rfl, ?_⟩) (by assumption) ?_
    rotate_left
    · (intro w hSw; (try dsimp only at hSw); go_simp; try with_reducible rfl)
    simp only [Act.put, List.setIfInBounds_toArray, List.set_cons_zero, List.set_cons_succ]
    refine wpAnyH_ready (rs := [4]) (by kernel_rfl) (by simp) ?_
    refine AllReadyH.cons (o := ⟨some 163, _, _, _, _, _⟩) rfl (fun K hK => ?_) AllReadyH.nil
    go_simp
    go_at_call 16; refine (HRd.out _).mono ?_; rintro e w' ⟨rfl, md, rfl⟩
    refine hK.out _ _ (by (try dsimp only); exact ⟨n0, n1, n2, n3, n4, n5, n6⟩) ?_
    clear hK K hHeld
    intro hHeld
    try simp only [Act.put, List.setIfInBounds_toArray, List.set_cons_zero, List.set_cons_succ]
    refine wpAnyH_take (i := 5) (oi := ⟨some 164, _, _, _, _, _⟩) (v := ?_) rfl (by kernel_rfl) (by kernel_rfl) (by kernel_rfl) (fun _ _ _ h => h) (Or.inl ⟨by rfl, ?_⟩) (by assumption) ?_
    rotate_left
    · (intro w hSw; (try dsimp only at hSw); go_simp; try with_reducible rfl)
    simp only [Act.put, List.setIfInBounds_toArray, List.set_cons_zero, List.set_cons_succ]
    refine wpAnyH_take (i := 6) (oi := ⟨some 165, _, _, _, _, _⟩) (v := ?_) rfl (by kernel_rfl) (by kernel_rfl) (by kernel_rfl) (fun _ _ _ h => h) (Or.inl ⟨by rfl, ?_⟩) (by assumption) ?_
    rotate_left
    · (intro w hSw; (try dsimp only at hSw); go_simp; try with_reducible rfl)
    simp only [Act.put, List.setIfInBounds_toArray, List.set_cons_zero, List.set_cons_succ]
    refine wpAnyH_take (i := 12) (oi := ⟨some 171, _, _, _, _, _⟩) (v := ?_) rfl (by kernel_rfl) (by kernel_rfl) (by kernel_rfl) (fun _ _ _ h => h) (Or.inl ⟨by rfl, ?_⟩) (by assumption) ?_
    rotate_left
    · (intro w hSw; (try dsimp only at hSw); go_simp; try with_reducible rfl)
    simp only [Act.put, List.setIfInBounds_toArray, List.set_cons_zero, List.set_cons_succ]
    refine wpAnyH_take (i := 13) (oi := ⟨some 2, _, _, _, _, _⟩) (v := ?_) rfl (by kernel_rfl) (by kernel_rfl) (by kernel_rfl) (fun _ _ _ h => h) (Or.inl ⟨by rfl, ?_⟩) (by assumption) ?_
    rotate_left
    · (intro w hSw; (try dsimp only at hSw); go_simp; try with_reducible rfl)
    simp only [Act.put, List.setIfInBounds_toArray, List.set_cons_zero, List.set_cons_succ]
    refine wpAnyH_done (by kernel_rfl) ?_ _
    go_wp2_with fail
    go_ret
    exact ⟨by rw [HX.out]; rfl, by repeat (first | exact HB7.out | refine below_drewN ?_ _ | refine Below.drew ?_ | refine below_alloc ?_ _)⟩
  · obtain ⟨A1, hA1⟩ : ∃ A : List UInt8, A = [77, 82, 83, 32] ++ (regL d) := ⟨_, rfl⟩
    have hcat1 : ∀ wx : World, (Op.stringOp .add ({ data := #[77, 82, 83] } ++ { data := #[32] } : ByteArray) (ba (regL d))).run Try.prog wx = .ok (.string (ba A1)) wx := by
      have hq : ({ data := #[77, 82, 83] } ++ { data := #[32] } : ByteArray) = ba [77, 82, 83, 32] := by kernel_rfl
      rw [hq]
      exact cat_bb (P := Try.prog) _ _ A1 hA1 (by simp; omega)
    obtain ⟨A2, hA2⟩ : ∃ A : List UInt8, A = A1 ++ [44] := ⟨_, rfl⟩
    have hcat2 : ∀ wx : World, (Op.stringOp .add (ba A1) { data := #[44] }).run Try.prog wx = .ok (.string (ba A2)) wx := cat_bb (P := Try.prog) _ _ A2 hA2 (by rw [hA1]; simp; omega)
    obtain ⟨A3, hA3⟩ : ∃ A : List UInt8, A = A2 ++ [69, 76, 82, 95, 69, 76, 49] := ⟨_, rfl⟩
    have hcat3 : ∀ wx : World, (Op.stringOp .add (ba A2) { data := #[69, 76, 82, 95, 69, 76, 49] }).run Try.prog wx = .ok (.string (ba A3)) wx := cat_bb (P := Try.prog) _ _ A3 hA3 (by rw [hA2]; rw [hA1]; simp; omega)
    have HX := Lib.hid (show printA 23 d n m imm 2 = A3 by rw [HP.out, hA3, hA2, hA1]; unfold textA; simp [sysL])
    clear hA1 hA2 hA3
    go_wp2_with fail
    have HNL := Lib.hid (show Blk (w7.alloc (.cells #[.string { data := #[69, 83, 82, 95, 69, 76, 49] }, .string { data := #[70, 65, 82, 95, 69, 76, 49] }, .string { data := #[69, 76, 82, 95, 69, 76, 49] }] 9)) 9 w7.heap.size [.string { data := #[69, 83, 82, 95, 69, 76, 49] }, .string { data := #[70, 65, 82, 95, 69, 76, 49] }, .string { data := #[69, 76, 82, 95, 69, 76, 49] }] from Blk.new _ _ _)
    have HN8 := Lib.hid (HN7.out.below (below_alloc (Below.refl w7.heap.size w7) (.cells #[.string { data := #[69, 83, 82, 95, 69, 76, 49] }, .string { data := #[70, 65, 82, 95, 69, 76, 49] }, .string { data := #[69, 76, 82, 95, 69, 76, 49] }] 9)))
    clear n0 n1 n2 n3 n4 n5
    obtain ⟨n0, n1, n2, n3, n4, n5⟩ := blk_instr HN8.out
    have n6 : (w7.alloc (.cells #[.string { data := #[69, 83, 82, 95, 69, 76, 49] }, .string { data := #[70, 65, 82, 95, 69, 76, 49] }, .string { data := #[69, 76, 82, 95, 69, 76, 49] }] 9)).cell? ⟨w7.heap.size, 2, none⟩ = some (.string { data := #[69, 76, 82, 95, 69, 76, 49] }) := HNL.out.cell 2
    refine wp_region_held_drew (S := (fun w' => w'.cell? ⟨w.heap.size, 0, none⟩ = some (.int .i64 23) ∧ w'.cell? ⟨w.heap.size, 1, none⟩ = some (.int .i64 d) ∧ w'.cell? ⟨w.heap.size, 2, none⟩ = some (.int .i64 n) ∧ w'.cell? ⟨w.heap.size, 3, none⟩ = some (.int .i64 m) ∧ w'.cell? ⟨w.heap.size, 4, none⟩ = some (.int .i64 imm) ∧ w'.cell? ⟨w.heap.size, 5, none⟩ = some (.int .i64 2) ∧ w'.cell? ⟨w7.heap.size, 2, none⟩ = some (.string { data := #[69, 76, 82, 95, 69, 76, 49] }))) (by kernel_rfl) (by (try dsimp only); exact ⟨n0, n1, n2, n3, n4, n5, n6⟩) (fun hHeld => ?_)
    refine wpAnyH_take (i := 0) (oi := ⟨some 159, _, _, _, _, _⟩) (v := ?_) rfl (by kernel_rfl) (by kernel_rfl) (by kernel_rfl) (fun _ _ _ h => h) (Or.inl ⟨by rfl, ?_⟩) (by assumption) ?_
    rotate_left
    · (intro w hSw; (try dsimp only at hSw); go_simp; try with_reducible rfl)
    simp only [Act.put, List.setIfInBounds_toArray, List.set_cons_zero, List.set_cons_succ]
    refine wpAnyH_take (i := 1) (oi := ⟨some 160, _, _, _, _, _⟩) (v := ?_) rfl (by kernel_rfl) (by kernel_rfl) (by kernel_rfl) (fun _ _ _ h => h) (Or.inl ⟨by rfl, ?_⟩) (by assumption) ?_
    rotate_left
    · (intro w hSw; (try dsimp only at hSw); go_simp; try with_reducible rfl)
    simp only [Act.put, List.setIfInBounds_toArray, List.set_cons_zero, List.set_cons_succ]
    refine wpAnyH_take (i := 2) (oi := ⟨some 161, _, _, _, _, _⟩) (v := ?_) rfl (by kernel_rfl) (by kernel_rfl) (by kernel_rfl) (fun _ _ _ h => h) (Or.inl ⟨by rfl, ?_⟩) (by assumption) ?_
    rotate_left
    · (intro w hSw; (try dsimp only at hSw); go_simp; try with_reducible rfl)
    simp only [Act.put, List.setIfInBounds_toArray, List.set_cons_zero, List.set_cons_succ]
    refine wpAnyH_take (i := 3) (oi := ⟨some 162, _, _, _, _, _⟩) (v := ?_) rfl (by kernel_rfl) (by kernel_rfl) (by kernel_rfl) (fun _ _ _ h => h) (Or.inl ⟨by rfl, ?_⟩) (by assumption) ?_
    rotate_left
    · (intro w hSw; (try dsimp only at hSw); go_simp; try with_reducible rfl)
    simp only [Act.put, List.setIfInBounds_toArray, List.set_cons_zero, List.set_cons_succ]
    refine wpAnyH_take (i := 7) (oi := ⟨some 166, _, _, _, _, _⟩) (v := ?_) rfl (by kernel_rfl) (by kernel_rfl) (by kernel_rfl) (fun _ _ _ h => h) (Or.inl ⟨by rfl, ?_⟩) (by assumption) ?_
    rotate_left
    · (intro w hSw; (try dsimp only at hSw); go_simp; try with_reducible rfl)
    simp only [Act.put, List.setIfInBounds_toArray, List.set_cons_zero, List.set_cons_succ]
    refine wpAnyH_take (i := 8) (oi := ⟨some 167, _, _, _, _, _⟩) (v := ?_) rfl (by kernel_rfl) (by kernel_rfl) (by kernel_rfl) (fun _ _ _ h => h) (Or.inl ⟨by rfl, ?_⟩) (by assumption) ?_
    rotate_left
    · (intro w hSw; (try dsimp only at hSw); go_simp; try with_reducible rfl)
    simp only [Act.put, List.setIfInBounds_toArray, List.set_cons_zero, List.set_cons_succ]
    refine wpAnyH_take (i := 9) (oi := ⟨some 168, _, _, _, _, _⟩) (v := ?_) rfl (by kernel_rfl) (by kernel_rfl) (by kernel_rfl) (fun _ _ _ h => h) (Or.inl ⟨by rfl, ?_⟩) (by assumption) ?_
    rotate_left
    · (intro w hSw; (try dsimp only at hSw); go_simp; try with_reducible rfl)
    simp only [Act.put, List.setIfInBounds_toArray, List.set_cons_zero, List.set_cons_succ]
    refine wpAnyH_take (i := 10) (oi := ⟨some 169, _, _, _, _, _⟩) (v := ?_) rfl (by kernel_rfl) (by kernel_rfl) (by kernel_rfl) (fun _ _ _ h => h) (Or.inl ⟨by rfl, ?_⟩) (by assumption) ?_
    rotate_left
    · (intro w hSw; (try dsimp only at hSw); go_simp; try with_reducible rfl)
    simp only [Act.put, List.setIfInBounds_toArray, List.set_cons_zero, List.set_cons_succ]
    refine wpAnyH_take (i := 11) (oi := ⟨some 170, _, _, _, _, _⟩) (v := ?_) rfl (by kernel_rfl) (by kernel_rfl) (by kernel_rfl) (fun _ _ _ h => h) (Or.inl ⟨by rfl, ?_⟩) (by assumption) ?_
    rotate_left
    · (intro w hSw; (try dsimp only at hSw); go_simp; try with_reducible rfl)
    simp only [Act.put, List.setIfInBounds_toArray, List.set_cons_zero, List.set_cons_succ]
    refine wpAnyH_ready (rs := [4]) (by kernel_rfl) (by simp) ?_
    refine AllReadyH.cons (o := ⟨some 163, _, _, _, _, _⟩) rfl (fun K hK => ?_) AllReadyH.nil
    go_simp
    go_at_call 16; refine (HRd.out _).mono ?_; rintro e w' ⟨rfl, md, rfl⟩
    refine hK.out _ _ (by (try dsimp only); exact ⟨n0, n1, n2, n3, n4, n5, n6⟩) ?_
    clear hK K hHeld
    intro hHeld
    try simp only [Act.put, List.setIfInBounds_toArray, List.set_cons_zero, List.set_cons_succ]
    refine wpAnyH_take (i := 5) (oi := ⟨some 164, _, _, _, _, _⟩) (v := ?_) rfl (by kernel_rfl) (by kernel_rfl) (by kernel_rfl) (fun _ _ _ h => h) (Or.inl ⟨by rfl, ?_⟩) (by assumption) ?_
    rotate_left
    · (intro w hSw; (try dsimp only at hSw); go_simp; try with_reducible rfl)
    simp only [Act.put, List.setIfInBounds_toArray, List.set_cons_zero, List.set_cons_succ]
    refine wpAnyH_take (i := 6) (oi := ⟨some 165, _, _, _, _, _⟩) (v := ?_) rfl (by kernel_rfl) (by kernel_rfl) (by kernel_rfl) (fun _ _ _ h => h) (Or.inl ⟨by rfl, ?_⟩) (by assumption) ?_
    rotate_left
    · (intro w hSw; (try dsimp only at hSw); go_simp; try with_reducible rfl)
    simp only [Act.put, List.setIfInBounds_toArray, List.set_cons_zero, List.set_cons_succ]
    refine wpAnyH_take (i := 12) (oi := ⟨some 171, _, _, _, _, _⟩) (v := ?_) rfl (by kernel_rfl) (by kernel_rfl) (by kernel_rfl) (fun _ _ _ h => h) (Or.inl ⟨by rfl, ?_⟩) (by assumption) ?_
    rotate_left
    · (intro w hSw; (try dsimp only at hSw); go_simp; try with_reducible rfl)
    simp only [Act.put, List.setIfInBounds_toArray, List.set_cons_zero, List.set_cons_succ]
    refine wpAnyH_take (i := 13) (oi := ⟨some 2, _, _, _, _, _⟩) (v := ?_) rfl (by kernel_rfl) (by kernel_rfl) (by kernel_rfl) (fun _ _ _ h => h) (Or.inl ⟨by rfl, ?_⟩) (by assumption) ?_
    rotate_left
    · (intro w hSw; (try dsimp only at hSw); go_simp; try with_reducible rfl)
    simp only [Act.put, List.setIfInBounds_toArray, List.set_cons_zero, List.set_cons_succ]
    refine wpAnyH_done (by kernel_rfl) ?_ _
    go_wp2_with fail
    go_ret
    exact ⟨by rw [HX.out]; rfl, by repeat (first | exact HB7.out | refine below_drewN ?_ _ | refine Below.drew ?_ | refine below_alloc ?_ _)⟩
set_option maxRecDepth 100000 in
theorem rprint_any (op d n m imm kind : Int) (w : World) :
    Calls Try.prog 10 #[instrW op d n m imm kind] w fun e w' => e = .returned (.string (ba (printA op d n m imm kind))) ∧ Below w.heap.size w w' := by
  by_cases hr : rightP op d n m imm kind
  · have ho : 1 ≤ op ∧ op ≤ 23 := hr.1.1
    have hoo : op = 1 ∨ op = 2 ∨ op = 3 ∨ op = 4 ∨ op = 5 ∨ op = 6 ∨ op = 7 ∨ op = 8 ∨ op = 9 ∨ op = 10 ∨ op = 11 ∨ op = 12 ∨ op = 13 ∨ op = 14 ∨ op = 15 ∨ op = 16 ∨ op = 17 ∨ op = 18 ∨ op = 19 ∨ op = 20 ∨ op = 21 ∨ op = 22 ∨ op = 23 := by omega
    rcases hoo with rfl | rfl | rfl | rfl | rfl | rfl | rfl | rfl | rfl | rfl | rfl | rfl | rfl | rfl | rfl | rfl | rfl | rfl | rfl | rfl | rfl | rfl | rfl
    · exact rpr_1 d n m imm kind w hr
    · exact rpr_2 d n m imm kind w hr
    · exact rpr_3 d n m imm kind w hr
    · exact rpr_4 d n m imm kind w hr
    · exact rpr_5 d n m imm kind w hr
    · exact rpr_6 d n m imm kind w hr
    · exact rpr_7 d n m imm kind w hr
    · exact rpr_8 d n m imm kind w hr
    · exact rpr_9 d n m imm kind w hr
    · exact rpr_10 d n m imm kind w hr
    · exact rpr_11 d n m imm kind w hr
    · exact rpr_12 d n m imm kind w hr
    · exact rpr_13 d n m imm kind w hr
    · exact rpr_14 d n m imm kind w hr
    · exact rpr_15 d n m imm kind w hr
    · exact rpr_16 d n m imm kind w hr
    · exact rpr_17 d n m imm kind w hr
    · exact rpr_18 d n m imm kind w hr
    · exact rpr_19 d n m imm kind w hr
    · exact rpr_20 d n m imm kind w hr
    · exact rpr_21 d n m imm kind w hr
    · exact rpr_22 d n m imm kind w hr
    · exact rpr_23 d n m imm kind w hr
  · have HB := Lib.hid (below_alloc (Below.refl w.heap.size w) (.cells #[.int .i64 op, .int .i64 d, .int .i64 n, .int .i64 m, .int .i64 imm, .int .i64 kind] 23))
    have HC := Lib.hid (right3_any op d n m imm kind (w.alloc (.cells #[.int .i64 op, .int .i64 d, .int .i64 n, .int .i64 m, .int .i64 imm, .int .i64 kind] 23)))
    rw [right_not hr] at HC
    have HP := Lib.hid (show printA op d n m imm kind = [] from if_neg hr)
    clear hr
    go_enter Try.func10, Try.ntmps10
    go_wp2_with fail
    refine (HC.out).mono ?_
    rintro e w2 ⟨rfl, hb⟩
    have HB2 := Lib.hid (below_trans HB.out hb)
    go_wp2_with fail
    go_ret
    exact ⟨by rw [HP.out]; rfl, by repeat (first | exact HB2.out | refine below_drewN ?_ _ | refine Below.drew ?_ | refine below_alloc ?_ _)⟩
end Go.Proofs.Ytlhkjjfdmglabaa
