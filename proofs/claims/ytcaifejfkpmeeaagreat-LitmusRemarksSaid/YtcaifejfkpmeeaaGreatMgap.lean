/- isa.Right, exactly: the walk. -/
import Derived.Test.YtcaifejfkpmeeaaGreatMgao
namespace Go.Proofs.YtcaifejfkpmeeaaGreat
open Go.RowKit
set_option linter.unusedVariables false
set_option linter.unusedSimpArgs false

def rightN (op d n m imm kind : Int) : Int := if rightP op d n m imm kind then 0 else 30
abbrev instrL (op d n m imm kind : Int) : List Value := [.int .i64 op, .int .i64 d, .int .i64 n, .int .i64 m, .int .i64 imm, .int .i64 kind]
theorem own_instr (w : World) (op d n m imm kind : Int) : Blk (w.alloc (.cells #[.int .i64 op, .int .i64 d, .int .i64 n, .int .i64 m, .int .i64 imm, .int .i64 kind] 82)) 82 w.heap.size (instrL op d n m imm kind) := Blk.new w _ (instrL op d n m imm kind)
theorem blk_instr {w : World} {g : Nat} {op d n m imm kind : Int} (h : Blk w 82 g (instrL op d n m imm kind)) : w.cell? ⟨g, 0, none⟩ = some (.int .i64 op) ∧ w.cell? ⟨g, 1, none⟩ = some (.int .i64 d) ∧ w.cell? ⟨g, 2, none⟩ = some (.int .i64 n) ∧ w.cell? ⟨g, 3, none⟩ = some (.int .i64 m) ∧ w.cell? ⟨g, 4, none⟩ = some (.int .i64 imm) ∧ w.cell? ⟨g, 5, none⟩ = some (.int .i64 kind) :=
  ⟨h.cell 0, h.cell 1, h.cell 2, h.cell 3, h.cell 4, h.cell 5⟩
theorem num_eq (op d imm kind : Int) : numI op d imm kind = decide (rightC op imm kind ∧ rightD op d kind) := rfl
set_option maxRecDepth 100000 in
set_option maxHeartbeats 3200000 in
theorem iright_1 (d n m imm kind : Int) (w : World) :
    Calls Tryz.prog 54 #[instrW 1 d n m imm kind] w fun e w' => e = .returned (.int .i64 (rightN 1 d n m imm kind)) ∧ Below w.heap.size w w' := by
  have H30 := Lib.hid (fun (h : ¬ rightP 1 d n m imm kind) => show rightN 1 d n m imm kind = 30 from if_neg h)
  have H0 := Lib.hid (fun (h : rightP 1 d n m imm kind) => show rightN 1 d n m imm kind = 0 from if_pos h)
  generalize rightN 1 d n m imm kind = R at *
  have HB := Lib.hid (below_alloc (Below.refl w.heap.size w) (.cells #[.int .i64 1, .int .i64 d, .int .i64 n, .int .i64 m, .int .i64 imm, .int .i64 kind] 82))
  have HN := Lib.hid (own_instr w 1 d n m imm kind)
  go_enter Tryz.func54, Tryz.ntmps54
  go_wp2_with fail
  refine (iparts_1 _).mono ?_
  rintro e w2 ⟨rfl, hb⟩
  have HB2 := Lib.hid (below_trans HB.out hb)
  have hlt := (HN.out.below hb).lt
  obtain ⟨n0, n1, n2, n3, n4, n5⟩ := blk_instr (HN.out.below hb)
  clear hb HN HB
  go_wp2_with (first | (go_at_call 75; refine (ireg_any _ _).mono ?_; rintro e w' ⟨rfl, rfl⟩) | (go_at_call 76; refine (inum_1 _ _ _ _ _ _).mono ?_; rintro e w3 ⟨rfl, hb3⟩))
  all_goals go_ret
  all_goals clear n0 n1 n2 n3 n4 n5 hlt
  all_goals first
    | (refine ⟨Eq.trans (b := .returned (.int .i64 30)) rfl ?_, by first | exact below_alloc HB2.out _ | exact below_trans (below_alloc HB2.out _) (by assumption)⟩
       rw [H30.out ?_]
       clear H30 H0 HB2
       simp [inB, numI, rightP, rightA, rightB, rightC, rightD] at *
       try omega)
    | (refine ⟨Eq.trans (b := .returned (.int .i64 0)) rfl ?_, by first | exact below_alloc HB2.out _ | exact below_trans (below_alloc HB2.out _) (by assumption)⟩
       rw [H0.out ?_]
       clear H30 H0 HB2
       simp [inB, numI, rightP, rightA, rightB, rightC, rightD] at *
       try omega)
set_option maxRecDepth 100000 in
set_option maxHeartbeats 3200000 in
theorem iright_2 (d n m imm kind : Int) (w : World) :
    Calls Tryz.prog 54 #[instrW 2 d n m imm kind] w fun e w' => e = .returned (.int .i64 (rightN 2 d n m imm kind)) ∧ Below w.heap.size w w' := by
  have H30 := Lib.hid (fun (h : ¬ rightP 2 d n m imm kind) => show rightN 2 d n m imm kind = 30 from if_neg h)
  have H0 := Lib.hid (fun (h : rightP 2 d n m imm kind) => show rightN 2 d n m imm kind = 0 from if_pos h)
  generalize rightN 2 d n m imm kind = R at *
  have HB := Lib.hid (below_alloc (Below.refl w.heap.size w) (.cells #[.int .i64 2, .int .i64 d, .int .i64 n, .int .i64 m, .int .i64 imm, .int .i64 kind] 82))
  have HN := Lib.hid (own_instr w 2 d n m imm kind)
  go_enter Tryz.func54, Tryz.ntmps54
  go_wp2_with fail
  refine (iparts_2 _).mono ?_
  rintro e w2 ⟨rfl, hb⟩
  have HB2 := Lib.hid (below_trans HB.out hb)
  have hlt := (HN.out.below hb).lt
  obtain ⟨n0, n1, n2, n3, n4, n5⟩ := blk_instr (HN.out.below hb)
  clear hb HN HB
  go_wp2_with (first | (go_at_call 75; refine (ireg_any _ _).mono ?_; rintro e w' ⟨rfl, rfl⟩) | (go_at_call 76; refine (inum_2 _ _ _ _ _ _).mono ?_; rintro e w3 ⟨rfl, hb3⟩))
  all_goals go_ret
  all_goals clear n0 n1 n2 n3 n4 n5 hlt
  all_goals first
    | (refine ⟨Eq.trans (b := .returned (.int .i64 30)) rfl ?_, by first | exact below_alloc HB2.out _ | exact below_trans (below_alloc HB2.out _) (by assumption)⟩
       rw [H30.out ?_]
       clear H30 H0 HB2
       simp [inB, numI, rightP, rightA, rightB, rightC, rightD] at *
       try omega)
    | (refine ⟨Eq.trans (b := .returned (.int .i64 0)) rfl ?_, by first | exact below_alloc HB2.out _ | exact below_trans (below_alloc HB2.out _) (by assumption)⟩
       rw [H0.out ?_]
       clear H30 H0 HB2
       simp [inB, numI, rightP, rightA, rightB, rightC, rightD] at *
       try omega)
set_option maxRecDepth 100000 in
set_option maxHeartbeats 3200000 in
theorem iright_3 (d n m imm kind : Int) (w : World) :
    Calls Tryz.prog 54 #[instrW 3 d n m imm kind] w fun e w' => e = .returned (.int .i64 (rightN 3 d n m imm kind)) ∧ Below w.heap.size w w' := by
  have H30 := Lib.hid (fun (h : ¬ rightP 3 d n m imm kind) => show rightN 3 d n m imm kind = 30 from if_neg h)
  have H0 := Lib.hid (fun (h : rightP 3 d n m imm kind) => show rightN 3 d n m imm kind = 0 from if_pos h)
  generalize rightN 3 d n m imm kind = R at *
  have HB := Lib.hid (below_alloc (Below.refl w.heap.size w) (.cells #[.int .i64 3, .int .i64 d, .int .i64 n, .int .i64 m, .int .i64 imm, .int .i64 kind] 82))
  have HN := Lib.hid (own_instr w 3 d n m imm kind)
  go_enter Tryz.func54, Tryz.ntmps54
  go_wp2_with fail
  refine (iparts_3 _).mono ?_
  rintro e w2 ⟨rfl, hb⟩
  have HB2 := Lib.hid (below_trans HB.out hb)
  have hlt := (HN.out.below hb).lt
  obtain ⟨n0, n1, n2, n3, n4, n5⟩ := blk_instr (HN.out.below hb)
  clear hb HN HB
  go_wp2_with (first | (go_at_call 75; refine (ireg_any _ _).mono ?_; rintro e w' ⟨rfl, rfl⟩) | (go_at_call 76; refine (inum_3 _ _ _ _ _ _).mono ?_; rintro e w3 ⟨rfl, hb3⟩))
  all_goals go_ret
  all_goals clear n0 n1 n2 n3 n4 n5 hlt
  all_goals first
    | (refine ⟨Eq.trans (b := .returned (.int .i64 30)) rfl ?_, by first | exact below_alloc HB2.out _ | exact below_trans (below_alloc HB2.out _) (by assumption)⟩
       rw [H30.out ?_]
       clear H30 H0 HB2
       simp [inB, numI, rightP, rightA, rightB, rightC, rightD] at *
       try omega)
    | (refine ⟨Eq.trans (b := .returned (.int .i64 0)) rfl ?_, by first | exact below_alloc HB2.out _ | exact below_trans (below_alloc HB2.out _) (by assumption)⟩
       rw [H0.out ?_]
       clear H30 H0 HB2
       simp [inB, numI, rightP, rightA, rightB, rightC, rightD] at *
       try omega)
set_option maxRecDepth 100000 in
set_option maxHeartbeats 3200000 in
theorem iright_4 (d n m imm kind : Int) (w : World) :
    Calls Tryz.prog 54 #[instrW 4 d n m imm kind] w fun e w' => e = .returned (.int .i64 (rightN 4 d n m imm kind)) ∧ Below w.heap.size w w' := by
  have H30 := Lib.hid (fun (h : ¬ rightP 4 d n m imm kind) => show rightN 4 d n m imm kind = 30 from if_neg h)
  have H0 := Lib.hid (fun (h : rightP 4 d n m imm kind) => show rightN 4 d n m imm kind = 0 from if_pos h)
  generalize rightN 4 d n m imm kind = R at *
  have HB := Lib.hid (below_alloc (Below.refl w.heap.size w) (.cells #[.int .i64 4, .int .i64 d, .int .i64 n, .int .i64 m, .int .i64 imm, .int .i64 kind] 82))
  have HN := Lib.hid (own_instr w 4 d n m imm kind)
  go_enter Tryz.func54, Tryz.ntmps54
  go_wp2_with fail
  refine (iparts_4 _).mono ?_
  rintro e w2 ⟨rfl, hb⟩
  have HB2 := Lib.hid (below_trans HB.out hb)
  have hlt := (HN.out.below hb).lt
  obtain ⟨n0, n1, n2, n3, n4, n5⟩ := blk_instr (HN.out.below hb)
  clear hb HN HB
  go_wp2_with (first | (go_at_call 75; refine (ireg_any _ _).mono ?_; rintro e w' ⟨rfl, rfl⟩) | (go_at_call 76; refine (inum_4 _ _ _ _ _ _).mono ?_; rintro e w3 ⟨rfl, hb3⟩))
  all_goals go_ret
  all_goals clear n0 n1 n2 n3 n4 n5 hlt
  all_goals first
    | (refine ⟨Eq.trans (b := .returned (.int .i64 30)) rfl ?_, by first | exact below_alloc HB2.out _ | exact below_trans (below_alloc HB2.out _) (by assumption)⟩
       rw [H30.out ?_]
       clear H30 H0 HB2
       simp [inB, numI, rightP, rightA, rightB, rightC, rightD] at *
       try omega)
    | (refine ⟨Eq.trans (b := .returned (.int .i64 0)) rfl ?_, by first | exact below_alloc HB2.out _ | exact below_trans (below_alloc HB2.out _) (by assumption)⟩
       rw [H0.out ?_]
       clear H30 H0 HB2
       simp [inB, numI, rightP, rightA, rightB, rightC, rightD] at *
       try omega)
set_option maxRecDepth 100000 in
set_option maxHeartbeats 3200000 in
theorem iright_5 (d n m imm kind : Int) (w : World) :
    Calls Tryz.prog 54 #[instrW 5 d n m imm kind] w fun e w' => e = .returned (.int .i64 (rightN 5 d n m imm kind)) ∧ Below w.heap.size w w' := by
  have H30 := Lib.hid (fun (h : ¬ rightP 5 d n m imm kind) => show rightN 5 d n m imm kind = 30 from if_neg h)
  have H0 := Lib.hid (fun (h : rightP 5 d n m imm kind) => show rightN 5 d n m imm kind = 0 from if_pos h)
  generalize rightN 5 d n m imm kind = R at *
  have HB := Lib.hid (below_alloc (Below.refl w.heap.size w) (.cells #[.int .i64 5, .int .i64 d, .int .i64 n, .int .i64 m, .int .i64 imm, .int .i64 kind] 82))
  have HN := Lib.hid (own_instr w 5 d n m imm kind)
  go_enter Tryz.func54, Tryz.ntmps54
  go_wp2_with fail
  refine (iparts_5 _).mono ?_
  rintro e w2 ⟨rfl, hb⟩
  have HB2 := Lib.hid (below_trans HB.out hb)
  have hlt := (HN.out.below hb).lt
  obtain ⟨n0, n1, n2, n3, n4, n5⟩ := blk_instr (HN.out.below hb)
  clear hb HN HB
  go_wp2_with (first | (go_at_call 75; refine (ireg_any _ _).mono ?_; rintro e w' ⟨rfl, rfl⟩) | (go_at_call 76; refine (inum_5 _ _ _ _ _ _).mono ?_; rintro e w3 ⟨rfl, hb3⟩))
  all_goals go_ret
  all_goals clear n0 n1 n2 n3 n4 n5 hlt
  all_goals first
    | (refine ⟨Eq.trans (b := .returned (.int .i64 30)) rfl ?_, by first | exact below_alloc HB2.out _ | exact below_trans (below_alloc HB2.out _) (by assumption)⟩
       rw [H30.out ?_]
       clear H30 H0 HB2
       simp [inB, numI, rightP, rightA, rightB, rightC, rightD] at *
       try omega)
    | (refine ⟨Eq.trans (b := .returned (.int .i64 0)) rfl ?_, by first | exact below_alloc HB2.out _ | exact below_trans (below_alloc HB2.out _) (by assumption)⟩
       rw [H0.out ?_]
       clear H30 H0 HB2
       simp [inB, numI, rightP, rightA, rightB, rightC, rightD] at *
       try omega)
set_option maxRecDepth 100000 in
set_option maxHeartbeats 3200000 in
theorem iright_6 (d n m imm kind : Int) (w : World) :
    Calls Tryz.prog 54 #[instrW 6 d n m imm kind] w fun e w' => e = .returned (.int .i64 (rightN 6 d n m imm kind)) ∧ Below w.heap.size w w' := by
  have H30 := Lib.hid (fun (h : ¬ rightP 6 d n m imm kind) => show rightN 6 d n m imm kind = 30 from if_neg h)
  have H0 := Lib.hid (fun (h : rightP 6 d n m imm kind) => show rightN 6 d n m imm kind = 0 from if_pos h)
  generalize rightN 6 d n m imm kind = R at *
  have HB := Lib.hid (below_alloc (Below.refl w.heap.size w) (.cells #[.int .i64 6, .int .i64 d, .int .i64 n, .int .i64 m, .int .i64 imm, .int .i64 kind] 82))
  have HN := Lib.hid (own_instr w 6 d n m imm kind)
  go_enter Tryz.func54, Tryz.ntmps54
  go_wp2_with fail
  refine (iparts_6 _).mono ?_
  rintro e w2 ⟨rfl, hb⟩
  have HB2 := Lib.hid (below_trans HB.out hb)
  have hlt := (HN.out.below hb).lt
  obtain ⟨n0, n1, n2, n3, n4, n5⟩ := blk_instr (HN.out.below hb)
  clear hb HN HB
  go_wp2_with (first | (go_at_call 75; refine (ireg_any _ _).mono ?_; rintro e w' ⟨rfl, rfl⟩) | (go_at_call 76; refine (inum_6 _ _ _ _ _ _).mono ?_; rintro e w3 ⟨rfl, hb3⟩))
  all_goals go_ret
  all_goals clear n0 n1 n2 n3 n4 n5 hlt
  all_goals first
    | (refine ⟨Eq.trans (b := .returned (.int .i64 30)) rfl ?_, by first | exact below_alloc HB2.out _ | exact below_trans (below_alloc HB2.out _) (by assumption)⟩
       rw [H30.out ?_]
       clear H30 H0 HB2
       simp [inB, numI, rightP, rightA, rightB, rightC, rightD] at *
       try omega)
    | (refine ⟨Eq.trans (b := .returned (.int .i64 0)) rfl ?_, by first | exact below_alloc HB2.out _ | exact below_trans (below_alloc HB2.out _) (by assumption)⟩
       rw [H0.out ?_]
       clear H30 H0 HB2
       simp [inB, numI, rightP, rightA, rightB, rightC, rightD] at *
       try omega)
set_option maxRecDepth 100000 in
set_option maxHeartbeats 3200000 in
theorem iright_7 (d n m imm kind : Int) (w : World) :
    Calls Tryz.prog 54 #[instrW 7 d n m imm kind] w fun e w' => e = .returned (.int .i64 (rightN 7 d n m imm kind)) ∧ Below w.heap.size w w' := by
  have H30 := Lib.hid (fun (h : ¬ rightP 7 d n m imm kind) => show rightN 7 d n m imm kind = 30 from if_neg h)
  have H0 := Lib.hid (fun (h : rightP 7 d n m imm kind) => show rightN 7 d n m imm kind = 0 from if_pos h)
  generalize rightN 7 d n m imm kind = R at *
  have HB := Lib.hid (below_alloc (Below.refl w.heap.size w) (.cells #[.int .i64 7, .int .i64 d, .int .i64 n, .int .i64 m, .int .i64 imm, .int .i64 kind] 82))
  have HN := Lib.hid (own_instr w 7 d n m imm kind)
  go_enter Tryz.func54, Tryz.ntmps54
  go_wp2_with fail
  refine (iparts_7 _).mono ?_
  rintro e w2 ⟨rfl, hb⟩
  have HB2 := Lib.hid (below_trans HB.out hb)
  have hlt := (HN.out.below hb).lt
  obtain ⟨n0, n1, n2, n3, n4, n5⟩ := blk_instr (HN.out.below hb)
  clear hb HN HB
  go_wp2_with (first | (go_at_call 75; refine (ireg_any _ _).mono ?_; rintro e w' ⟨rfl, rfl⟩) | (go_at_call 76; refine (inum_7 _ _ _ _ _ _).mono ?_; rintro e w3 ⟨rfl, hb3⟩))
  all_goals go_ret
  all_goals clear n0 n1 n2 n3 n4 n5 hlt
  all_goals first
    | (refine ⟨Eq.trans (b := .returned (.int .i64 30)) rfl ?_, by first | exact below_alloc HB2.out _ | exact below_trans (below_alloc HB2.out _) (by assumption)⟩
       rw [H30.out ?_]
       clear H30 H0 HB2
       simp [inB, numI, rightP, rightA, rightB, rightC, rightD] at *
       try omega)
    | (refine ⟨Eq.trans (b := .returned (.int .i64 0)) rfl ?_, by first | exact below_alloc HB2.out _ | exact below_trans (below_alloc HB2.out _) (by assumption)⟩
       rw [H0.out ?_]
       clear H30 H0 HB2
       simp [inB, numI, rightP, rightA, rightB, rightC, rightD] at *
       try omega)
set_option maxRecDepth 100000 in
set_option maxHeartbeats 3200000 in
theorem iright_8 (d n m imm kind : Int) (w : World) :
    Calls Tryz.prog 54 #[instrW 8 d n m imm kind] w fun e w' => e = .returned (.int .i64 (rightN 8 d n m imm kind)) ∧ Below w.heap.size w w' := by
  have H30 := Lib.hid (fun (h : ¬ rightP 8 d n m imm kind) => show rightN 8 d n m imm kind = 30 from if_neg h)
  have H0 := Lib.hid (fun (h : rightP 8 d n m imm kind) => show rightN 8 d n m imm kind = 0 from if_pos h)
  generalize rightN 8 d n m imm kind = R at *
  have HB := Lib.hid (below_alloc (Below.refl w.heap.size w) (.cells #[.int .i64 8, .int .i64 d, .int .i64 n, .int .i64 m, .int .i64 imm, .int .i64 kind] 82))
  have HN := Lib.hid (own_instr w 8 d n m imm kind)
  go_enter Tryz.func54, Tryz.ntmps54
  go_wp2_with fail
  refine (iparts_8 _).mono ?_
  rintro e w2 ⟨rfl, hb⟩
  have HB2 := Lib.hid (below_trans HB.out hb)
  have hlt := (HN.out.below hb).lt
  obtain ⟨n0, n1, n2, n3, n4, n5⟩ := blk_instr (HN.out.below hb)
  clear hb HN HB
  go_wp2_with (first | (go_at_call 75; refine (ireg_any _ _).mono ?_; rintro e w' ⟨rfl, rfl⟩) | (go_at_call 76; refine (inum_8 _ _ _ _ _ _).mono ?_; rintro e w3 ⟨rfl, hb3⟩))
  all_goals go_ret
  all_goals clear n0 n1 n2 n3 n4 n5 hlt
  all_goals first
    | (refine ⟨Eq.trans (b := .returned (.int .i64 30)) rfl ?_, by first | exact below_alloc HB2.out _ | exact below_trans (below_alloc HB2.out _) (by assumption)⟩
       rw [H30.out ?_]
       clear H30 H0 HB2
       simp [inB, numI, rightP, rightA, rightB, rightC, rightD] at *
       try omega)
    | (refine ⟨Eq.trans (b := .returned (.int .i64 0)) rfl ?_, by first | exact below_alloc HB2.out _ | exact below_trans (below_alloc HB2.out _) (by assumption)⟩
       rw [H0.out ?_]
       clear H30 H0 HB2
       simp [inB, numI, rightP, rightA, rightB, rightC, rightD] at *
       try omega)
set_option maxRecDepth 100000 in
set_option maxHeartbeats 3200000 in
theorem iright_9 (d n m imm kind : Int) (w : World) :
    Calls Tryz.prog 54 #[instrW 9 d n m imm kind] w fun e w' => e = .returned (.int .i64 (rightN 9 d n m imm kind)) ∧ Below w.heap.size w w' := by
  have H30 := Lib.hid (fun (h : ¬ rightP 9 d n m imm kind) => show rightN 9 d n m imm kind = 30 from if_neg h)
  have H0 := Lib.hid (fun (h : rightP 9 d n m imm kind) => show rightN 9 d n m imm kind = 0 from if_pos h)
  generalize rightN 9 d n m imm kind = R at *
  have HB := Lib.hid (below_alloc (Below.refl w.heap.size w) (.cells #[.int .i64 9, .int .i64 d, .int .i64 n, .int .i64 m, .int .i64 imm, .int .i64 kind] 82))
  have HN := Lib.hid (own_instr w 9 d n m imm kind)
  go_enter Tryz.func54, Tryz.ntmps54
  go_wp2_with fail
  refine (iparts_9 _).mono ?_
  rintro e w2 ⟨rfl, hb⟩
  have HB2 := Lib.hid (below_trans HB.out hb)
  have hlt := (HN.out.below hb).lt
  obtain ⟨n0, n1, n2, n3, n4, n5⟩ := blk_instr (HN.out.below hb)
  clear hb HN HB
  go_wp2_with (first | (go_at_call 75; refine (ireg_any _ _).mono ?_; rintro e w' ⟨rfl, rfl⟩) | (go_at_call 76; refine (inum_9 _ _ _ _ _ _).mono ?_; rintro e w3 ⟨rfl, hb3⟩))
  all_goals go_ret
  all_goals clear n0 n1 n2 n3 n4 n5 hlt
  all_goals first
    | (refine ⟨Eq.trans (b := .returned (.int .i64 30)) rfl ?_, by first | exact below_alloc HB2.out _ | exact below_trans (below_alloc HB2.out _) (by assumption)⟩
       rw [H30.out ?_]
       clear H30 H0 HB2
       simp [inB, numI, rightP, rightA, rightB, rightC, rightD] at *
       try omega)
    | (refine ⟨Eq.trans (b := .returned (.int .i64 0)) rfl ?_, by first | exact below_alloc HB2.out _ | exact below_trans (below_alloc HB2.out _) (by assumption)⟩
       rw [H0.out ?_]
       clear H30 H0 HB2
       simp [inB, numI, rightP, rightA, rightB, rightC, rightD] at *
       try omega)
set_option maxRecDepth 100000 in
set_option maxHeartbeats 3200000 in
theorem iright_10 (d n m imm kind : Int) (w : World) :
    Calls Tryz.prog 54 #[instrW 10 d n m imm kind] w fun e w' => e = .returned (.int .i64 (rightN 10 d n m imm kind)) ∧ Below w.heap.size w w' := by
  have H30 := Lib.hid (fun (h : ¬ rightP 10 d n m imm kind) => show rightN 10 d n m imm kind = 30 from if_neg h)
  have H0 := Lib.hid (fun (h : rightP 10 d n m imm kind) => show rightN 10 d n m imm kind = 0 from if_pos h)
  generalize rightN 10 d n m imm kind = R at *
  have HB := Lib.hid (below_alloc (Below.refl w.heap.size w) (.cells #[.int .i64 10, .int .i64 d, .int .i64 n, .int .i64 m, .int .i64 imm, .int .i64 kind] 82))
  have HN := Lib.hid (own_instr w 10 d n m imm kind)
  go_enter Tryz.func54, Tryz.ntmps54
  go_wp2_with fail
  refine (iparts_10 _).mono ?_
  rintro e w2 ⟨rfl, hb⟩
  have HB2 := Lib.hid (below_trans HB.out hb)
  have hlt := (HN.out.below hb).lt
  obtain ⟨n0, n1, n2, n3, n4, n5⟩ := blk_instr (HN.out.below hb)
  clear hb HN HB
  go_wp2_with (first | (go_at_call 75; refine (ireg_any _ _).mono ?_; rintro e w' ⟨rfl, rfl⟩) | (go_at_call 76; refine (inum_10 _ _ _ _ _ _).mono ?_; rintro e w3 ⟨rfl, hb3⟩))
  all_goals go_ret
  all_goals clear n0 n1 n2 n3 n4 n5 hlt
  all_goals first
    | (refine ⟨Eq.trans (b := .returned (.int .i64 30)) rfl ?_, by first | exact below_alloc HB2.out _ | exact below_trans (below_alloc HB2.out _) (by assumption)⟩
       rw [H30.out ?_]
       clear H30 H0 HB2
       simp [inB, numI, rightP, rightA, rightB, rightC, rightD] at *
       try omega)
    | (refine ⟨Eq.trans (b := .returned (.int .i64 0)) rfl ?_, by first | exact below_alloc HB2.out _ | exact below_trans (below_alloc HB2.out _) (by assumption)⟩
       rw [H0.out ?_]
       clear H30 H0 HB2
       simp [inB, numI, rightP, rightA, rightB, rightC, rightD] at *
       try omega)
set_option maxRecDepth 100000 in
set_option maxHeartbeats 3200000 in
theorem iright_11 (d n m imm kind : Int) (w : World) :
    Calls Tryz.prog 54 #[instrW 11 d n m imm kind] w fun e w' => e = .returned (.int .i64 (rightN 11 d n m imm kind)) ∧ Below w.heap.size w w' := by
  have H30 := Lib.hid (fun (h : ¬ rightP 11 d n m imm kind) => show rightN 11 d n m imm kind = 30 from if_neg h)
  have H0 := Lib.hid (fun (h : rightP 11 d n m imm kind) => show rightN 11 d n m imm kind = 0 from if_pos h)
  generalize rightN 11 d n m imm kind = R at *
  have HB := Lib.hid (below_alloc (Below.refl w.heap.size w) (.cells #[.int .i64 11, .int .i64 d, .int .i64 n, .int .i64 m, .int .i64 imm, .int .i64 kind] 82))
  have HN := Lib.hid (own_instr w 11 d n m imm kind)
  go_enter Tryz.func54, Tryz.ntmps54
  go_wp2_with fail
  refine (iparts_11 _).mono ?_
  rintro e w2 ⟨rfl, hb⟩
  have HB2 := Lib.hid (below_trans HB.out hb)
  have hlt := (HN.out.below hb).lt
  obtain ⟨n0, n1, n2, n3, n4, n5⟩ := blk_instr (HN.out.below hb)
  clear hb HN HB
  go_wp2_with (first | (go_at_call 75; refine (ireg_any _ _).mono ?_; rintro e w' ⟨rfl, rfl⟩) | (go_at_call 76; refine (inum_11 _ _ _ _ _ _).mono ?_; rintro e w3 ⟨rfl, hb3⟩))
  all_goals go_ret
  all_goals clear n0 n1 n2 n3 n4 n5 hlt
  all_goals first
    | (refine ⟨Eq.trans (b := .returned (.int .i64 30)) rfl ?_, by first | exact below_alloc HB2.out _ | exact below_trans (below_alloc HB2.out _) (by assumption)⟩
       rw [H30.out ?_]
       clear H30 H0 HB2
       simp [inB, numI, rightP, rightA, rightB, rightC, rightD] at *
       try omega)
    | (refine ⟨Eq.trans (b := .returned (.int .i64 0)) rfl ?_, by first | exact below_alloc HB2.out _ | exact below_trans (below_alloc HB2.out _) (by assumption)⟩
       rw [H0.out ?_]
       clear H30 H0 HB2
       simp [inB, numI, rightP, rightA, rightB, rightC, rightD] at *
       try omega)
set_option maxRecDepth 100000 in
set_option maxHeartbeats 3200000 in
theorem iright_12 (d n m imm kind : Int) (w : World) :
    Calls Tryz.prog 54 #[instrW 12 d n m imm kind] w fun e w' => e = .returned (.int .i64 (rightN 12 d n m imm kind)) ∧ Below w.heap.size w w' := by
  have H30 := Lib.hid (fun (h : ¬ rightP 12 d n m imm kind) => show rightN 12 d n m imm kind = 30 from if_neg h)
  have H0 := Lib.hid (fun (h : rightP 12 d n m imm kind) => show rightN 12 d n m imm kind = 0 from if_pos h)
  generalize rightN 12 d n m imm kind = R at *
  have HB := Lib.hid (below_alloc (Below.refl w.heap.size w) (.cells #[.int .i64 12, .int .i64 d, .int .i64 n, .int .i64 m, .int .i64 imm, .int .i64 kind] 82))
  have HN := Lib.hid (own_instr w 12 d n m imm kind)
  go_enter Tryz.func54, Tryz.ntmps54
  go_wp2_with fail
  refine (iparts_12 _).mono ?_
  rintro e w2 ⟨rfl, hb⟩
  have HB2 := Lib.hid (below_trans HB.out hb)
  have hlt := (HN.out.below hb).lt
  obtain ⟨n0, n1, n2, n3, n4, n5⟩ := blk_instr (HN.out.below hb)
  clear hb HN HB
  go_wp2_with (first | (go_at_call 75; refine (ireg_any _ _).mono ?_; rintro e w' ⟨rfl, rfl⟩) | (go_at_call 76; refine (inum_12 _ _ _ _ _ _).mono ?_; rintro e w3 ⟨rfl, hb3⟩))
  all_goals go_ret
  all_goals clear n0 n1 n2 n3 n4 n5 hlt
  all_goals first
    | (refine ⟨Eq.trans (b := .returned (.int .i64 30)) rfl ?_, by first | exact below_alloc HB2.out _ | exact below_trans (below_alloc HB2.out _) (by assumption)⟩
       rw [H30.out ?_]
       clear H30 H0 HB2
       simp [inB, numI, rightP, rightA, rightB, rightC, rightD] at *
       try omega)
    | (refine ⟨Eq.trans (b := .returned (.int .i64 0)) rfl ?_, by first | exact below_alloc HB2.out _ | exact below_trans (below_alloc HB2.out _) (by assumption)⟩
       rw [H0.out ?_]
       clear H30 H0 HB2
       simp [inB, numI, rightP, rightA, rightB, rightC, rightD] at *
       try omega)
set_option maxRecDepth 100000 in
set_option maxHeartbeats 3200000 in
theorem iright_13 (d n m imm kind : Int) (w : World) :
    Calls Tryz.prog 54 #[instrW 13 d n m imm kind] w fun e w' => e = .returned (.int .i64 (rightN 13 d n m imm kind)) ∧ Below w.heap.size w w' := by
  have H30 := Lib.hid (fun (h : ¬ rightP 13 d n m imm kind) => show rightN 13 d n m imm kind = 30 from if_neg h)
  have H0 := Lib.hid (fun (h : rightP 13 d n m imm kind) => show rightN 13 d n m imm kind = 0 from if_pos h)
  generalize rightN 13 d n m imm kind = R at *
  have HB := Lib.hid (below_alloc (Below.refl w.heap.size w) (.cells #[.int .i64 13, .int .i64 d, .int .i64 n, .int .i64 m, .int .i64 imm, .int .i64 kind] 82))
  have HN := Lib.hid (own_instr w 13 d n m imm kind)
  go_enter Tryz.func54, Tryz.ntmps54
  go_wp2_with fail
  refine (iparts_13 _).mono ?_
  rintro e w2 ⟨rfl, hb⟩
  have HB2 := Lib.hid (below_trans HB.out hb)
  have hlt := (HN.out.below hb).lt
  obtain ⟨n0, n1, n2, n3, n4, n5⟩ := blk_instr (HN.out.below hb)
  clear hb HN HB
  go_wp2_with (first | (go_at_call 75; refine (ireg_any _ _).mono ?_; rintro e w' ⟨rfl, rfl⟩) | (go_at_call 76; refine (inum_13 _ _ _ _ _ _).mono ?_; rintro e w3 ⟨rfl, hb3⟩))
  all_goals go_ret
  all_goals clear n0 n1 n2 n3 n4 n5 hlt
  all_goals first
    | (refine ⟨Eq.trans (b := .returned (.int .i64 30)) rfl ?_, by first | exact below_alloc HB2.out _ | exact below_trans (below_alloc HB2.out _) (by assumption)⟩
       rw [H30.out ?_]
       clear H30 H0 HB2
       simp [inB, numI, rightP, rightA, rightB, rightC, rightD] at *
       try omega)
    | (refine ⟨Eq.trans (b := .returned (.int .i64 0)) rfl ?_, by first | exact below_alloc HB2.out _ | exact below_trans (below_alloc HB2.out _) (by assumption)⟩
       rw [H0.out ?_]
       clear H30 H0 HB2
       simp [inB, numI, rightP, rightA, rightB, rightC, rightD] at *
       try omega)
set_option maxRecDepth 100000 in
set_option maxHeartbeats 3200000 in
theorem iright_14 (d n m imm kind : Int) (w : World) :
    Calls Tryz.prog 54 #[instrW 14 d n m imm kind] w fun e w' => e = .returned (.int .i64 (rightN 14 d n m imm kind)) ∧ Below w.heap.size w w' := by
  have H30 := Lib.hid (fun (h : ¬ rightP 14 d n m imm kind) => show rightN 14 d n m imm kind = 30 from if_neg h)
  have H0 := Lib.hid (fun (h : rightP 14 d n m imm kind) => show rightN 14 d n m imm kind = 0 from if_pos h)
  generalize rightN 14 d n m imm kind = R at *
  have HB := Lib.hid (below_alloc (Below.refl w.heap.size w) (.cells #[.int .i64 14, .int .i64 d, .int .i64 n, .int .i64 m, .int .i64 imm, .int .i64 kind] 82))
  have HN := Lib.hid (own_instr w 14 d n m imm kind)
  go_enter Tryz.func54, Tryz.ntmps54
  go_wp2_with fail
  refine (iparts_14 _).mono ?_
  rintro e w2 ⟨rfl, hb⟩
  have HB2 := Lib.hid (below_trans HB.out hb)
  have hlt := (HN.out.below hb).lt
  obtain ⟨n0, n1, n2, n3, n4, n5⟩ := blk_instr (HN.out.below hb)
  clear hb HN HB
  go_wp2_with (first | (go_at_call 75; refine (ireg_any _ _).mono ?_; rintro e w' ⟨rfl, rfl⟩) | (go_at_call 76; refine (inum_14 _ _ _ _ _ _).mono ?_; rintro e w3 ⟨rfl, hb3⟩))
  all_goals go_ret
  all_goals clear n0 n1 n2 n3 n4 n5 hlt
  all_goals first
    | (refine ⟨Eq.trans (b := .returned (.int .i64 30)) rfl ?_, by first | exact below_alloc HB2.out _ | exact below_trans (below_alloc HB2.out _) (by assumption)⟩
       rw [H30.out ?_]
       clear H30 H0 HB2
       simp [inB, numI, rightP, rightA, rightB, rightC, rightD] at *
       try omega)
    | (refine ⟨Eq.trans (b := .returned (.int .i64 0)) rfl ?_, by first | exact below_alloc HB2.out _ | exact below_trans (below_alloc HB2.out _) (by assumption)⟩
       rw [H0.out ?_]
       clear H30 H0 HB2
       simp [inB, numI, rightP, rightA, rightB, rightC, rightD] at *
       try omega)
set_option maxRecDepth 100000 in
set_option maxHeartbeats 3200000 in
theorem iright_15 (d n m imm kind : Int) (w : World) :
    Calls Tryz.prog 54 #[instrW 15 d n m imm kind] w fun e w' => e = .returned (.int .i64 (rightN 15 d n m imm kind)) ∧ Below w.heap.size w w' := by
  have H30 := Lib.hid (fun (h : ¬ rightP 15 d n m imm kind) => show rightN 15 d n m imm kind = 30 from if_neg h)
  have H0 := Lib.hid (fun (h : rightP 15 d n m imm kind) => show rightN 15 d n m imm kind = 0 from if_pos h)
  generalize rightN 15 d n m imm kind = R at *
  have HB := Lib.hid (below_alloc (Below.refl w.heap.size w) (.cells #[.int .i64 15, .int .i64 d, .int .i64 n, .int .i64 m, .int .i64 imm, .int .i64 kind] 82))
  have HN := Lib.hid (own_instr w 15 d n m imm kind)
  go_enter Tryz.func54, Tryz.ntmps54
  go_wp2_with fail
  refine (iparts_15 _).mono ?_
  rintro e w2 ⟨rfl, hb⟩
  have HB2 := Lib.hid (below_trans HB.out hb)
  have hlt := (HN.out.below hb).lt
  obtain ⟨n0, n1, n2, n3, n4, n5⟩ := blk_instr (HN.out.below hb)
  clear hb HN HB
  go_wp2_with (first | (go_at_call 75; refine (ireg_any _ _).mono ?_; rintro e w' ⟨rfl, rfl⟩) | (go_at_call 76; refine (inum_15 _ _ _ _ _ _).mono ?_; rintro e w3 ⟨rfl, hb3⟩))
  all_goals go_ret
  all_goals clear n0 n1 n2 n3 n4 n5 hlt
  all_goals first
    | (refine ⟨Eq.trans (b := .returned (.int .i64 30)) rfl ?_, by first | exact below_alloc HB2.out _ | exact below_trans (below_alloc HB2.out _) (by assumption)⟩
       rw [H30.out ?_]
       clear H30 H0 HB2
       simp [inB, numI, rightP, rightA, rightB, rightC, rightD] at *
       try omega)
    | (refine ⟨Eq.trans (b := .returned (.int .i64 0)) rfl ?_, by first | exact below_alloc HB2.out _ | exact below_trans (below_alloc HB2.out _) (by assumption)⟩
       rw [H0.out ?_]
       clear H30 H0 HB2
       simp [inB, numI, rightP, rightA, rightB, rightC, rightD] at *
       try omega)
set_option maxRecDepth 100000 in
set_option maxHeartbeats 3200000 in
theorem iright_16 (d n m imm kind : Int) (w : World) :
    Calls Tryz.prog 54 #[instrW 16 d n m imm kind] w fun e w' => e = .returned (.int .i64 (rightN 16 d n m imm kind)) ∧ Below w.heap.size w w' := by
  have H30 := Lib.hid (fun (h : ¬ rightP 16 d n m imm kind) => show rightN 16 d n m imm kind = 30 from if_neg h)
  have H0 := Lib.hid (fun (h : rightP 16 d n m imm kind) => show rightN 16 d n m imm kind = 0 from if_pos h)
  generalize rightN 16 d n m imm kind = R at *
  have HB := Lib.hid (below_alloc (Below.refl w.heap.size w) (.cells #[.int .i64 16, .int .i64 d, .int .i64 n, .int .i64 m, .int .i64 imm, .int .i64 kind] 82))
  have HN := Lib.hid (own_instr w 16 d n m imm kind)
  go_enter Tryz.func54, Tryz.ntmps54
  go_wp2_with fail
  refine (iparts_16 _).mono ?_
  rintro e w2 ⟨rfl, hb⟩
  have HB2 := Lib.hid (below_trans HB.out hb)
  have hlt := (HN.out.below hb).lt
  obtain ⟨n0, n1, n2, n3, n4, n5⟩ := blk_instr (HN.out.below hb)
  clear hb HN HB
  go_wp2_with (first | (go_at_call 75; refine (ireg_any _ _).mono ?_; rintro e w' ⟨rfl, rfl⟩) | (go_at_call 76; refine (inum_16 _ _ _ _ _ _).mono ?_; rintro e w3 ⟨rfl, hb3⟩))
  all_goals go_ret
  all_goals clear n0 n1 n2 n3 n4 n5 hlt
  all_goals first
    | (refine ⟨Eq.trans (b := .returned (.int .i64 30)) rfl ?_, by first | exact below_alloc HB2.out _ | exact below_trans (below_alloc HB2.out _) (by assumption)⟩
       rw [H30.out ?_]
       clear H30 H0 HB2
       simp [inB, numI, rightP, rightA, rightB, rightC, rightD] at *
       try omega)
    | (refine ⟨Eq.trans (b := .returned (.int .i64 0)) rfl ?_, by first | exact below_alloc HB2.out _ | exact below_trans (below_alloc HB2.out _) (by assumption)⟩
       rw [H0.out ?_]
       clear H30 H0 HB2
       simp [inB, numI, rightP, rightA, rightB, rightC, rightD] at *
       try omega)
set_option maxRecDepth 100000 in
set_option maxHeartbeats 3200000 in
theorem iright_17 (d n m imm kind : Int) (w : World) :
    Calls Tryz.prog 54 #[instrW 17 d n m imm kind] w fun e w' => e = .returned (.int .i64 (rightN 17 d n m imm kind)) ∧ Below w.heap.size w w' := by
  have H30 := Lib.hid (fun (h : ¬ rightP 17 d n m imm kind) => show rightN 17 d n m imm kind = 30 from if_neg h)
  have H0 := Lib.hid (fun (h : rightP 17 d n m imm kind) => show rightN 17 d n m imm kind = 0 from if_pos h)
  generalize rightN 17 d n m imm kind = R at *
  have HB := Lib.hid (below_alloc (Below.refl w.heap.size w) (.cells #[.int .i64 17, .int .i64 d, .int .i64 n, .int .i64 m, .int .i64 imm, .int .i64 kind] 82))
  have HN := Lib.hid (own_instr w 17 d n m imm kind)
  go_enter Tryz.func54, Tryz.ntmps54
  go_wp2_with fail
  refine (iparts_17 _).mono ?_
  rintro e w2 ⟨rfl, hb⟩
  have HB2 := Lib.hid (below_trans HB.out hb)
  have hlt := (HN.out.below hb).lt
  obtain ⟨n0, n1, n2, n3, n4, n5⟩ := blk_instr (HN.out.below hb)
  clear hb HN HB
  go_wp2_with (first | (go_at_call 75; refine (ireg_any _ _).mono ?_; rintro e w' ⟨rfl, rfl⟩) | (go_at_call 76; refine (inum_17 _ _ _ _ _ _).mono ?_; rintro e w3 ⟨rfl, hb3⟩))
  all_goals go_ret
  all_goals clear n0 n1 n2 n3 n4 n5 hlt
  all_goals first
    | (refine ⟨Eq.trans (b := .returned (.int .i64 30)) rfl ?_, by first | exact below_alloc HB2.out _ | exact below_trans (below_alloc HB2.out _) (by assumption)⟩
       rw [H30.out ?_]
       clear H30 H0 HB2
       simp [inB, numI, rightP, rightA, rightB, rightC, rightD] at *
       try omega)
    | (refine ⟨Eq.trans (b := .returned (.int .i64 0)) rfl ?_, by first | exact below_alloc HB2.out _ | exact below_trans (below_alloc HB2.out _) (by assumption)⟩
       rw [H0.out ?_]
       clear H30 H0 HB2
       simp [inB, numI, rightP, rightA, rightB, rightC, rightD] at *
       try omega)
set_option maxRecDepth 100000 in
set_option maxHeartbeats 3200000 in
theorem iright_18 (d n m imm kind : Int) (w : World) :
    Calls Tryz.prog 54 #[instrW 18 d n m imm kind] w fun e w' => e = .returned (.int .i64 (rightN 18 d n m imm kind)) ∧ Below w.heap.size w w' := by
  have H30 := Lib.hid (fun (h : ¬ rightP 18 d n m imm kind) => show rightN 18 d n m imm kind = 30 from if_neg h)
  have H0 := Lib.hid (fun (h : rightP 18 d n m imm kind) => show rightN 18 d n m imm kind = 0 from if_pos h)
  generalize rightN 18 d n m imm kind = R at *
  have HB := Lib.hid (below_alloc (Below.refl w.heap.size w) (.cells #[.int .i64 18, .int .i64 d, .int .i64 n, .int .i64 m, .int .i64 imm, .int .i64 kind] 82))
  have HN := Lib.hid (own_instr w 18 d n m imm kind)
  go_enter Tryz.func54, Tryz.ntmps54
  go_wp2_with fail
  refine (iparts_18 _).mono ?_
  rintro e w2 ⟨rfl, hb⟩
  have HB2 := Lib.hid (below_trans HB.out hb)
  have hlt := (HN.out.below hb).lt
  obtain ⟨n0, n1, n2, n3, n4, n5⟩ := blk_instr (HN.out.below hb)
  clear hb HN HB
  go_wp2_with (first | (go_at_call 75; refine (ireg_any _ _).mono ?_; rintro e w' ⟨rfl, rfl⟩) | (go_at_call 76; refine (inum_18 _ _ _ _ _ _).mono ?_; rintro e w3 ⟨rfl, hb3⟩))
  all_goals go_ret
  all_goals clear n0 n1 n2 n3 n4 n5 hlt
  all_goals first
    | (refine ⟨Eq.trans (b := .returned (.int .i64 30)) rfl ?_, by first | exact below_alloc HB2.out _ | exact below_trans (below_alloc HB2.out _) (by assumption)⟩
       rw [H30.out ?_]
       clear H30 H0 HB2
       simp [inB, numI, rightP, rightA, rightB, rightC, rightD] at *
       try omega)
    | (refine ⟨Eq.trans (b := .returned (.int .i64 0)) rfl ?_, by first | exact below_alloc HB2.out _ | exact below_trans (below_alloc HB2.out _) (by assumption)⟩
       rw [H0.out ?_]
       clear H30 H0 HB2
       simp [inB, numI, rightP, rightA, rightB, rightC, rightD] at *
       try omega)
set_option maxRecDepth 100000 in
set_option maxHeartbeats 3200000 in
theorem iright_19 (d n m imm kind : Int) (w : World) :
    Calls Tryz.prog 54 #[instrW 19 d n m imm kind] w fun e w' => e = .returned (.int .i64 (rightN 19 d n m imm kind)) ∧ Below w.heap.size w w' := by
  have H30 := Lib.hid (fun (h : ¬ rightP 19 d n m imm kind) => show rightN 19 d n m imm kind = 30 from if_neg h)
  have H0 := Lib.hid (fun (h : rightP 19 d n m imm kind) => show rightN 19 d n m imm kind = 0 from if_pos h)
  generalize rightN 19 d n m imm kind = R at *
  have HB := Lib.hid (below_alloc (Below.refl w.heap.size w) (.cells #[.int .i64 19, .int .i64 d, .int .i64 n, .int .i64 m, .int .i64 imm, .int .i64 kind] 82))
  have HN := Lib.hid (own_instr w 19 d n m imm kind)
  go_enter Tryz.func54, Tryz.ntmps54
  go_wp2_with fail
  refine (iparts_19 _).mono ?_
  rintro e w2 ⟨rfl, hb⟩
  have HB2 := Lib.hid (below_trans HB.out hb)
  have hlt := (HN.out.below hb).lt
  obtain ⟨n0, n1, n2, n3, n4, n5⟩ := blk_instr (HN.out.below hb)
  clear hb HN HB
  go_wp2_with (first | (go_at_call 75; refine (ireg_any _ _).mono ?_; rintro e w' ⟨rfl, rfl⟩) | (go_at_call 76; refine (inum_19 _ _ _ _ _ _).mono ?_; rintro e w3 ⟨rfl, hb3⟩))
  all_goals go_ret
  all_goals clear n0 n1 n2 n3 n4 n5 hlt
  all_goals first
    | (refine ⟨Eq.trans (b := .returned (.int .i64 30)) rfl ?_, by first | exact below_alloc HB2.out _ | exact below_trans (below_alloc HB2.out _) (by assumption)⟩
       rw [H30.out ?_]
       clear H30 H0 HB2
       simp [inB, numI, rightP, rightA, rightB, rightC, rightD] at *
       try omega)
    | (refine ⟨Eq.trans (b := .returned (.int .i64 0)) rfl ?_, by first | exact below_alloc HB2.out _ | exact below_trans (below_alloc HB2.out _) (by assumption)⟩
       rw [H0.out ?_]
       clear H30 H0 HB2
       simp [inB, numI, rightP, rightA, rightB, rightC, rightD] at *
       try omega)
set_option maxRecDepth 100000 in
set_option maxHeartbeats 3200000 in
theorem iright_20 (d n m imm kind : Int) (w : World) :
    Calls Tryz.prog 54 #[instrW 20 d n m imm kind] w fun e w' => e = .returned (.int .i64 (rightN 20 d n m imm kind)) ∧ Below w.heap.size w w' := by
  have H30 := Lib.hid (fun (h : ¬ rightP 20 d n m imm kind) => show rightN 20 d n m imm kind = 30 from if_neg h)
  have H0 := Lib.hid (fun (h : rightP 20 d n m imm kind) => show rightN 20 d n m imm kind = 0 from if_pos h)
  generalize rightN 20 d n m imm kind = R at *
  have HB := Lib.hid (below_alloc (Below.refl w.heap.size w) (.cells #[.int .i64 20, .int .i64 d, .int .i64 n, .int .i64 m, .int .i64 imm, .int .i64 kind] 82))
  have HN := Lib.hid (own_instr w 20 d n m imm kind)
  go_enter Tryz.func54, Tryz.ntmps54
  go_wp2_with fail
  refine (iparts_20 _).mono ?_
  rintro e w2 ⟨rfl, hb⟩
  have HB2 := Lib.hid (below_trans HB.out hb)
  have hlt := (HN.out.below hb).lt
  obtain ⟨n0, n1, n2, n3, n4, n5⟩ := blk_instr (HN.out.below hb)
  clear hb HN HB
  go_wp2_with (first | (go_at_call 75; refine (ireg_any _ _).mono ?_; rintro e w' ⟨rfl, rfl⟩) | (go_at_call 76; refine (inum_20 _ _ _ _ _ _).mono ?_; rintro e w3 ⟨rfl, hb3⟩))
  all_goals go_ret
  all_goals clear n0 n1 n2 n3 n4 n5 hlt
  all_goals first
    | (refine ⟨Eq.trans (b := .returned (.int .i64 30)) rfl ?_, by first | exact below_alloc HB2.out _ | exact below_trans (below_alloc HB2.out _) (by assumption)⟩
       rw [H30.out ?_]
       clear H30 H0 HB2
       simp [inB, numI, rightP, rightA, rightB, rightC, rightD] at *
       try omega)
    | (refine ⟨Eq.trans (b := .returned (.int .i64 0)) rfl ?_, by first | exact below_alloc HB2.out _ | exact below_trans (below_alloc HB2.out _) (by assumption)⟩
       rw [H0.out ?_]
       clear H30 H0 HB2
       simp [inB, numI, rightP, rightA, rightB, rightC, rightD] at *
       try omega)
set_option maxRecDepth 100000 in
set_option maxHeartbeats 3200000 in
theorem iright_21 (d n m imm kind : Int) (w : World) :
    Calls Tryz.prog 54 #[instrW 21 d n m imm kind] w fun e w' => e = .returned (.int .i64 (rightN 21 d n m imm kind)) ∧ Below w.heap.size w w' := by
  have H30 := Lib.hid (fun (h : ¬ rightP 21 d n m imm kind) => show rightN 21 d n m imm kind = 30 from if_neg h)
  have H0 := Lib.hid (fun (h : rightP 21 d n m imm kind) => show rightN 21 d n m imm kind = 0 from if_pos h)
  generalize rightN 21 d n m imm kind = R at *
  have HB := Lib.hid (below_alloc (Below.refl w.heap.size w) (.cells #[.int .i64 21, .int .i64 d, .int .i64 n, .int .i64 m, .int .i64 imm, .int .i64 kind] 82))
  have HN := Lib.hid (own_instr w 21 d n m imm kind)
  go_enter Tryz.func54, Tryz.ntmps54
  go_wp2_with fail
  refine (iparts_21 _).mono ?_
  rintro e w2 ⟨rfl, hb⟩
  have HB2 := Lib.hid (below_trans HB.out hb)
  have hlt := (HN.out.below hb).lt
  obtain ⟨n0, n1, n2, n3, n4, n5⟩ := blk_instr (HN.out.below hb)
  clear hb HN HB
  go_wp2_with (first | (go_at_call 75; refine (ireg_any _ _).mono ?_; rintro e w' ⟨rfl, rfl⟩) | (go_at_call 76; refine (inum_21 _ _ _ _ _ _).mono ?_; rintro e w3 ⟨rfl, hb3⟩))
  all_goals go_ret
  all_goals clear n0 n1 n2 n3 n4 n5 hlt
  all_goals first
    | (refine ⟨Eq.trans (b := .returned (.int .i64 30)) rfl ?_, by first | exact below_alloc HB2.out _ | exact below_trans (below_alloc HB2.out _) (by assumption)⟩
       rw [H30.out ?_]
       clear H30 H0 HB2
       simp [inB, numI, rightP, rightA, rightB, rightC, rightD] at *
       try omega)
    | (refine ⟨Eq.trans (b := .returned (.int .i64 0)) rfl ?_, by first | exact below_alloc HB2.out _ | exact below_trans (below_alloc HB2.out _) (by assumption)⟩
       rw [H0.out ?_]
       clear H30 H0 HB2
       simp [inB, numI, rightP, rightA, rightB, rightC, rightD] at *
       try omega)
set_option maxRecDepth 100000 in
set_option maxHeartbeats 3200000 in
theorem iright_22 (d n m imm kind : Int) (w : World) :
    Calls Tryz.prog 54 #[instrW 22 d n m imm kind] w fun e w' => e = .returned (.int .i64 (rightN 22 d n m imm kind)) ∧ Below w.heap.size w w' := by
  have H30 := Lib.hid (fun (h : ¬ rightP 22 d n m imm kind) => show rightN 22 d n m imm kind = 30 from if_neg h)
  have H0 := Lib.hid (fun (h : rightP 22 d n m imm kind) => show rightN 22 d n m imm kind = 0 from if_pos h)
  generalize rightN 22 d n m imm kind = R at *
  have HB := Lib.hid (below_alloc (Below.refl w.heap.size w) (.cells #[.int .i64 22, .int .i64 d, .int .i64 n, .int .i64 m, .int .i64 imm, .int .i64 kind] 82))
  have HN := Lib.hid (own_instr w 22 d n m imm kind)
  go_enter Tryz.func54, Tryz.ntmps54
  go_wp2_with fail
  refine (iparts_22 _).mono ?_
  rintro e w2 ⟨rfl, hb⟩
  have HB2 := Lib.hid (below_trans HB.out hb)
  have hlt := (HN.out.below hb).lt
  obtain ⟨n0, n1, n2, n3, n4, n5⟩ := blk_instr (HN.out.below hb)
  clear hb HN HB
  go_wp2_with (first | (go_at_call 75; refine (ireg_any _ _).mono ?_; rintro e w' ⟨rfl, rfl⟩) | (go_at_call 76; refine (inum_22 _ _ _ _ _ _).mono ?_; rintro e w3 ⟨rfl, hb3⟩))
  all_goals go_ret
  all_goals clear n0 n1 n2 n3 n4 n5 hlt
  all_goals first
    | (refine ⟨Eq.trans (b := .returned (.int .i64 30)) rfl ?_, by first | exact below_alloc HB2.out _ | exact below_trans (below_alloc HB2.out _) (by assumption)⟩
       rw [H30.out ?_]
       clear H30 H0 HB2
       simp [inB, numI, rightP, rightA, rightB, rightC, rightD] at *
       try omega)
    | (refine ⟨Eq.trans (b := .returned (.int .i64 0)) rfl ?_, by first | exact below_alloc HB2.out _ | exact below_trans (below_alloc HB2.out _) (by assumption)⟩
       rw [H0.out ?_]
       clear H30 H0 HB2
       simp [inB, numI, rightP, rightA, rightB, rightC, rightD] at *
       try omega)
set_option maxRecDepth 100000 in
set_option maxHeartbeats 3200000 in
theorem iright_23 (d n m imm kind : Int) (w : World) :
    Calls Tryz.prog 54 #[instrW 23 d n m imm kind] w fun e w' => e = .returned (.int .i64 (rightN 23 d n m imm kind)) ∧ Below w.heap.size w w' := by
  have H30 := Lib.hid (fun (h : ¬ rightP 23 d n m imm kind) => show rightN 23 d n m imm kind = 30 from if_neg h)
  have H0 := Lib.hid (fun (h : rightP 23 d n m imm kind) => show rightN 23 d n m imm kind = 0 from if_pos h)
  generalize rightN 23 d n m imm kind = R at *
  have HB := Lib.hid (below_alloc (Below.refl w.heap.size w) (.cells #[.int .i64 23, .int .i64 d, .int .i64 n, .int .i64 m, .int .i64 imm, .int .i64 kind] 82))
  have HN := Lib.hid (own_instr w 23 d n m imm kind)
  go_enter Tryz.func54, Tryz.ntmps54
  go_wp2_with fail
  refine (iparts_23 _).mono ?_
  rintro e w2 ⟨rfl, hb⟩
  have HB2 := Lib.hid (below_trans HB.out hb)
  have hlt := (HN.out.below hb).lt
  obtain ⟨n0, n1, n2, n3, n4, n5⟩ := blk_instr (HN.out.below hb)
  clear hb HN HB
  go_wp2_with (first | (go_at_call 75; refine (ireg_any _ _).mono ?_; rintro e w' ⟨rfl, rfl⟩) | (go_at_call 76; refine (inum_23 _ _ _ _ _ _).mono ?_; rintro e w3 ⟨rfl, hb3⟩))
  all_goals go_ret
  all_goals clear n0 n1 n2 n3 n4 n5 hlt
  all_goals first
    | (refine ⟨Eq.trans (b := .returned (.int .i64 30)) rfl ?_, by first | exact below_alloc HB2.out _ | exact below_trans (below_alloc HB2.out _) (by assumption)⟩
       rw [H30.out ?_]
       clear H30 H0 HB2
       simp [inB, numI, rightP, rightA, rightB, rightC, rightD] at *
       try omega)
    | (refine ⟨Eq.trans (b := .returned (.int .i64 0)) rfl ?_, by first | exact below_alloc HB2.out _ | exact below_trans (below_alloc HB2.out _) (by assumption)⟩
       rw [H0.out ?_]
       clear H30 H0 HB2
       simp [inB, numI, rightP, rightA, rightB, rightC, rightD] at *
       try omega)
set_option maxRecDepth 100000 in
set_option maxHeartbeats 3200000 in
theorem iright_no (op d n m imm kind : Int) (w : World) (h : opB op = false) :
    Calls Tryz.prog 54 #[instrW op d n m imm kind] w fun e w' => e = .returned (.int .i64 (rightN op d n m imm kind)) ∧ Below w.heap.size w w' := by
  have H30 := Lib.hid (fun (h : ¬ rightP op d n m imm kind) => show rightN op d n m imm kind = 30 from if_neg h)
  have H0 := Lib.hid (fun (h : rightP op d n m imm kind) => show rightN op d n m imm kind = 0 from if_pos h)
  generalize rightN op d n m imm kind = R at *
  have HB := Lib.hid (below_alloc (Below.refl w.heap.size w) (.cells #[.int .i64 op, .int .i64 d, .int .i64 n, .int .i64 m, .int .i64 imm, .int .i64 kind] 82))
  have HN := Lib.hid (own_instr w op d n m imm kind)
  go_enter Tryz.func54, Tryz.ntmps54
  go_wp2_with fail
  refine (iparts_no _ _ h).mono ?_
  rintro e w2 ⟨rfl, hb⟩
  have HB2 := Lib.hid (below_trans HB.out hb)
  have hlt := (HN.out.below hb).lt
  obtain ⟨n0, n1, n2, n3, n4, n5⟩ := blk_instr (HN.out.below hb)
  clear hb HN HB
  have HF := Lib.hid (H30.out (fun hp => (of_decide_eq_false h) hp.1.1))
  go_wp2_with fail
  go_ret
  exact ⟨by rw [HF.out]; rfl, below_alloc HB2.out _⟩
theorem iright_any (op d n m imm kind : Int) (w : World) :
    Calls Tryz.prog 54 #[instrW op d n m imm kind] w fun e w' => e = .returned (.int .i64 (rightN op d n m imm kind)) ∧ Below w.heap.size w w' := by
  cases h : opB op
  · exact iright_no op d n m imm kind w h
  · rcases opB_cases h with rfl | rfl | rfl | rfl | rfl | rfl | rfl | rfl | rfl | rfl | rfl | rfl | rfl | rfl | rfl | rfl | rfl | rfl | rfl | rfl | rfl | rfl | rfl
    · exact iright_1 d n m imm kind w
    · exact iright_2 d n m imm kind w
    · exact iright_3 d n m imm kind w
    · exact iright_4 d n m imm kind w
    · exact iright_5 d n m imm kind w
    · exact iright_6 d n m imm kind w
    · exact iright_7 d n m imm kind w
    · exact iright_8 d n m imm kind w
    · exact iright_9 d n m imm kind w
    · exact iright_10 d n m imm kind w
    · exact iright_11 d n m imm kind w
    · exact iright_12 d n m imm kind w
    · exact iright_13 d n m imm kind w
    · exact iright_14 d n m imm kind w
    · exact iright_15 d n m imm kind w
    · exact iright_16 d n m imm kind w
    · exact iright_17 d n m imm kind w
    · exact iright_18 d n m imm kind w
    · exact iright_19 d n m imm kind w
    · exact iright_20 d n m imm kind w
    · exact iright_21 d n m imm kind w
    · exact iright_22 d n m imm kind w
    · exact iright_23 d n m imm kind w
end Go.Proofs.YtcaifejfkpmeeaaGreat
