/- granuleref04.Print: the document's text of an instruction: the walk. -/
import Derived.Test.YtmnojnopejhebaaGreatMgai
import Derived.Test.YtmnojnopejhebaaGreatMgak
import Derived.Test.YtmnojnopejhebaaGreatMgbl
namespace Go.Proofs.YtmnojnopejhebaaGreat
set_option linter.unusedVariables false
set_option linter.unusedSimpArgs false
set_option maxRecDepth 100000
set_option maxHeartbeats 25600000
section
open Go.RowKit
theorem m1a (op d n m imm kind : Int) (w : World) (hr : b0i op d n m imm kind) :
  Calls Tryz.prog 38 #[b0w op d n m imm kind] w fun e w' => e = .returned (.string (ba (a0d op d n m imm kind))) ∧ Below w.heap.size w w' := by
 have HB := h_ (bl_ (Below.refl w.heap.size w) (.cells #[.int .i64 op, .int .i64 d, .int .i64 n, .int .i64 m, .int .i64 imm, .int .i64 kind] 91))
 have HN := h_ (a0w w op d n m imm kind)
 have HC := h_ (q0f op d n m imm kind (w.alloc (.cells #[.int .i64 op, .int .i64 d, .int .i64 n, .int .i64 m, .int .i64 imm, .int .i64 kind] 91)))
 rw [b1x hr] at HC
 have HP := h_ (show a0d op d n m imm kind = b0g op d n m imm kind from if_pos hr)
 obtain ⟨⟨hop, hd, hn, hm⟩, hB, hCC, hDD⟩ := hr
 have hi : I64 imm := by
  unfold d0j at *
  unfold b0k at hB
  unfold b0d at hCC
  constructor <;> omega
 have HRB := h_ hB
 have HRC := h_ hCC
 have HRDD := h_ hDD
 clear hB hCC hDD
 have HII := h_ (fun w1 => l0f imm w1 hi)
 have HRd := h_ (fun w1 => m0n d w1 (by omega))
 have HRn := h_ (fun w1 => m0n n w1 (by omega))
 have HRm := h_ (fun w1 => m0n m w1 (by omega))
 have bI := c0p imm hi
 have bD := h0w d (by constructor <;> omega)
 have bN := h0w n (by constructor <;> omega)
 have bM := h0w m (by constructor <;> omega)
 obtain ⟨I, hI⟩ : ∃ I : List UInt8, I = [35] ++ intL imm := ⟨_, rfl⟩
 have hcatI : ∀ wx : World, (Op.stringOp .add { data := #[35] } (ba (intL imm))).run Tryz.prog wx = .ok (.string (ba I)) wx := m0z (P := Tryz.prog) [35] _ I hI (by simp; omega)
 obtain ⟨TP, hTP⟩ : ∃ I : List UInt8, I = [46, 43] ++ intL imm := ⟨_, rfl⟩
 have hcatP : ∀ wx : World, (Op.stringOp .add { data := #[46, 43] } (ba (intL imm))).run Tryz.prog wx = .ok (.string (ba TP)) wx := m0z (P := Tryz.prog) [46, 43] _ TP hTP (by simp; omega)
 obtain ⟨TN, hTN⟩ : ∃ I : List UInt8, I = [46] ++ intL imm := ⟨_, rfl⟩
 have hcatN : ∀ wx : World, (Op.stringOp .add { data := #[46] } (ba (intL imm))).run Tryz.prog wx = .ok (.string (ba TN)) wx := m0z (P := Tryz.prog) [46] _ TN hTN (by simp; omega)
 have bII : I.length ≤ 66 := by rw [hI]; simp; omega
 have bTP : TP.length ≤ 67 := by rw [hTP]; simp; omega
 have bTN : TN.length ≤ 67 := by rw [hTN]; simp; omega
 have HIM := h_ (show immL imm = I from hI.symm)
 have HTP := h_ (fun (h : ¬ imm < 0) => show a0p imm = TP by unfold a0p; rw [if_neg h, hTP])
 have HTN := h_ (fun (h : imm < 0) => show a0p imm = TN by unfold a0p; rw [if_pos h, hTN])
 clear hI hTP hTN
 go_enter Tryz.func38, Tryz.ntmps38
 go_wp2_with fail
 refine (HC.out).mono ?_
 rintro e w2 ⟨rfl, hb⟩
 have HB2 := h_ (bt_ HB.out hb)
 have hlt := (HN.out.below hb).lt
 have HN2 := h_ (HN.out.below hb)
 obtain ⟨n0, n1, n2, n3, n4, n5⟩ := a0b HN2.out
 clear hb HN HB HC
 go_wp2_with fail
 refine (HII.out _).mono ?_
 rintro e w' ⟨rfl, m1, rfl⟩
 go_wp2_with fail
 refine (HII.out _).mono ?_
 rintro e w' ⟨rfl, m2, rfl⟩
 have hopB : opB op = true := decide_eq_true hop
 by_cases hneg : imm < 0
 focus (
  have HTG := h_ (HTN.out (by omega))
  go_wp2_with fail
  refine (HII.out _).mono ?_
  rintro e w' ⟨rfl, m3, rfl⟩
  clear HTP HTN hcatP
  obtain ⟨TG, rfl⟩ : ∃ T, T = TN := ⟨_, rfl⟩)
 rotate_left
 focus (
  have HTG := h_ (HTP.out (by omega))
  clear HTP HTN hcatN
  obtain ⟨TG, rfl⟩ : ∃ T, T = TP := ⟨_, rfl⟩)
 all_goals (
  rcases j0m hopB with rfl | rfl | rfl | rfl | rfl | rfl | rfl | rfl | rfl | rfl | rfl | rfl | rfl | rfl | rfl | rfl | rfl | rfl | rfl | rfl | rfl | rfl | rfl
  ·first
    | exact absurd hneg (by have q1 := HRB.out; have q2 := HRC.out; unfold b0k at q1; unfold b0d at q2; omega)
    | (
     go_wp2_with fail
     refine (m1p _).mono ?_
     rintro e w7 ⟨rfl, hb⟩
     have HB7 := h_ (bt_ (bd_ HB2.out _) hb)
     have HN7 := h_ ((HN2.out.dn _).below hb)
     have hlt7 := HN7.out.lt
     clear hb n0 n1 n2 n3 n4 n5 hlt HB2 HN2
     obtain ⟨n0, n1, n2, n3, n4, n5⟩ := a0b HN7.out
     have HX := h_ (show a0d 1 d n m imm kind = ([78, 79, 80] : List UInt8) by rw [HP.out]; unfold b0g; simp [c0x])
     go_wp2_with fail
     go_ret
     exact ⟨by rw [HX.out]; rfl, by repeat (first | exact HB7.out | refine bd_ ?_ _ | refine Below.drew ?_ | refine bl_ ?_ _)⟩)
  ·first
    | exact absurd hneg (by have q1 := HRB.out; have q2 := HRC.out; unfold b0k at q1; unfold b0d at q2; omega)
    | (
     go_wp2_with fail
     refine (m1o _).mono ?_
     rintro e w7 ⟨rfl, hb⟩
     have HB7 := h_ (bt_ (bd_ HB2.out _) hb)
     have HN7 := h_ ((HN2.out.dn _).below hb)
     have hlt7 := HN7.out.lt
     clear hb n0 n1 n2 n3 n4 n5 hlt HB2 HN2
     obtain ⟨n0, n1, n2, n3, n4, n5⟩ := a0b HN7.out
     by_cases hz : imm = 0
     ·subst hz
      obtain ⟨A1, hA1, hcat1⟩ := catx (P := Tryz.prog) [76, 68, 82, 32] (regL d) (x := ({ data := #[76, 68, 82] } ++ { data := #[32] } : ByteArray)) (by kernel_rfl) (y := (ba (regL d))) rfl (by simp; omega)
      obtain ⟨A2, hA2, hcat2⟩ := catx (P := Tryz.prog) A1 [44, 91] (x := (ba A1)) rfl (y := { data := #[44, 91] }) rfl (by rw [hA1]; simp; omega)
      obtain ⟨A3, hA3, hcat3⟩ := catx (P := Tryz.prog) A2 (regL n) (x := (ba A2)) rfl (y := (ba (regL n))) rfl (by rw [hA2]; rw [hA1]; simp; omega)
      obtain ⟨A4, hA4, hcat4⟩ := catx (P := Tryz.prog) A3 [93] (x := (ba A3)) rfl (y := { data := #[93] }) rfl (by rw [hA3]; rw [hA2]; rw [hA1]; simp; omega)
      have HX := h_ (show a0d 2 d n m 0 kind = A4 by rw [HP.out, hA4, hA3, hA2, hA1]; unfold b0g; simp [c0x])
      clear hA1 hA2 hA3 hA4
      go_wp2_with fail
      refine wp_region_held_drew (S := (fun w' => w'.cell? ⟨w.heap.size, 0, none⟩ = some (.int .i64 2) ∧ w'.cell? ⟨w.heap.size, 1, none⟩ = some (.int .i64 d) ∧ w'.cell? ⟨w.heap.size, 2, none⟩ = some (.int .i64 n) ∧ w'.cell? ⟨w.heap.size, 3, none⟩ = some (.int .i64 m) ∧ w'.cell? ⟨w.heap.size, 4, none⟩ = some (.int .i64 0) ∧ w'.cell? ⟨w.heap.size, 5, none⟩ = some (.int .i64 kind))) (by kernel_rfl) (by (try dsimp only); exact ⟨n0, n1, n2, n3, n4, n5⟩) (fun hHeld => ?_)
      refine tk1 0 40 rfl ?_
      simp only [Act.put, tka, tk0, tkS]
      refine tk1 1 41 rfl ?_
      simp only [Act.put, tka, tk0, tkS]
      refine tk1 2 42 rfl ?_
      simp only [Act.put, tka, tk0, tkS]
      refine tk1 3 43 rfl ?_
      simp only [Act.put, tka, tk0, tkS]
      refine tk1 7 47 rfl ?_
      simp only [Act.put, tka, tk0, tkS]
      refine tk1 8 48 rfl ?_
      simp only [Act.put, tka, tk0, tkS]
      refine wpAnyH_ready (rs := [4]) (by kernel_rfl) (by simp) ?_
      refine AllReadyH.cons (o := ⟨some 44, _, _, _, _, _⟩) rfl (fun K hK => ?_) AllReadyH.nil
      go_simp
      go_at_call 37; refine (HRd.out _).mono ?_; rintro e w' ⟨rfl, md, rfl⟩
      refine hK.out _ _ (by (try dsimp only); exact ⟨n0, n1, n2, n3, n4, n5⟩) ?_
      clear hK K hHeld
      intro hHeld
      try simp only [Act.put, tka, tk0, tkS]
      refine tk1 5 45 rfl ?_
      simp only [Act.put, tka, tk0, tkS]
      refine tk1 6 46 rfl ?_
      simp only [Act.put, tka, tk0, tkS]
      refine wpAnyH_ready (rs := [9]) (by kernel_rfl) (by simp) ?_
      refine AllReadyH.cons (o := ⟨some 49, _, _, _, _, _⟩) rfl (fun K hK => ?_) AllReadyH.nil
      go_simp
      go_at_call 37; refine (HRn.out _).mono ?_; rintro e w' ⟨rfl, mn, rfl⟩
      refine hK.out _ _ (by (try dsimp only); exact ⟨n0, n1, n2, n3, n4, n5⟩) ?_
      clear hK K hHeld
      intro hHeld
      try simp only [Act.put, tka, tk0, tkS]
      refine tk1 10 50 rfl ?_
      simp only [Act.put, tka, tk0, tkS]
      refine tk1 11 5 rfl ?_
      simp only [Act.put, tka, tk0, tkS]
      refine wpAnyH_done (by kernel_rfl) ?_ _
      go_wp2_with fail
      go_ret
      exact ⟨by rw [HX.out]; rfl, by repeat (first | exact HB7.out | refine bd_ ?_ _ | refine Below.drew ?_ | refine bl_ ?_ _)⟩
     ·have hzb : (imm != 0) = true := bne_iff_ne.2 hz
      obtain ⟨A1, hA1, hcat1⟩ := catx (P := Tryz.prog) [76, 68, 82, 32] (regL d) (x := ({ data := #[76, 68, 82] } ++ { data := #[32] } : ByteArray)) (by kernel_rfl) (y := (ba (regL d))) rfl (by simp; omega)
      obtain ⟨A2, hA2, hcat2⟩ := catx (P := Tryz.prog) A1 [44, 91] (x := (ba A1)) rfl (y := { data := #[44, 91] }) rfl (by rw [hA1]; simp; omega)
      obtain ⟨A3, hA3, hcat3⟩ := catx (P := Tryz.prog) A2 (regL n) (x := (ba A2)) rfl (y := (ba (regL n))) rfl (by rw [hA2]; rw [hA1]; simp; omega)
      obtain ⟨A4, hA4, hcat4⟩ := catx (P := Tryz.prog) A3 [44] (x := (ba A3)) rfl (y := { data := #[44] }) rfl (by rw [hA3]; rw [hA2]; rw [hA1]; simp; omega)
      obtain ⟨A5, hA5, hcat5⟩ := catx (P := Tryz.prog) A4 I (x := (ba A4)) rfl (y := (ba I)) rfl (by rw [hA4]; rw [hA3]; rw [hA2]; rw [hA1]; simp; omega)
      obtain ⟨A6, hA6, hcat6⟩ := catx (P := Tryz.prog) A5 [93] (x := (ba A5)) rfl (y := { data := #[93] }) rfl (by rw [hA5]; rw [hA4]; rw [hA3]; rw [hA2]; rw [hA1]; simp; omega)
      have HX := h_ (show a0d 2 d n m imm kind = A6 by rw [HP.out, hA6, hA5, hA4, hA3, hA2, hA1]; unfold b0g; simp [c0x, hz, HIM.out])
      clear hA1 hA2 hA3 hA4 hA5 hA6
      go_wp2_with fail
      refine wp_region_held_drew (S := (fun w' => w'.cell? ⟨w.heap.size, 0, none⟩ = some (.int .i64 2) ∧ w'.cell? ⟨w.heap.size, 1, none⟩ = some (.int .i64 d) ∧ w'.cell? ⟨w.heap.size, 2, none⟩ = some (.int .i64 n) ∧ w'.cell? ⟨w.heap.size, 3, none⟩ = some (.int .i64 m) ∧ w'.cell? ⟨w.heap.size, 4, none⟩ = some (.int .i64 imm) ∧ w'.cell? ⟨w.heap.size, 5, none⟩ = some (.int .i64 kind))) (by kernel_rfl) (by (try dsimp only); exact ⟨n0, n1, n2, n3, n4, n5⟩) (fun hHeld => ?_)
      refine tk1 0 40 rfl ?_
      simp only [Act.put, tka, tk0, tkS]
      refine tk1 1 41 rfl ?_
      simp only [Act.put, tka, tk0, tkS]
      refine tk1 2 42 rfl ?_
      simp only [Act.put, tka, tk0, tkS]
      refine tk1 3 43 rfl ?_
      simp only [Act.put, tka, tk0, tkS]
      refine tk1 7 47 rfl ?_
      simp only [Act.put, tka, tk0, tkS]
      refine tk1 8 48 rfl ?_
      simp only [Act.put, tka, tk0, tkS]
      refine wpAnyH_ready (rs := [4]) (by kernel_rfl) (by simp) ?_
      refine AllReadyH.cons (o := ⟨some 44, _, _, _, _, _⟩) rfl (fun K hK => ?_) AllReadyH.nil
      go_simp
      go_at_call 37; refine (HRd.out _).mono ?_; rintro e w' ⟨rfl, md, rfl⟩
      refine hK.out _ _ (by (try dsimp only); exact ⟨n0, n1, n2, n3, n4, n5⟩) ?_
      clear hK K hHeld
      intro hHeld
      try simp only [Act.put, tka, tk0, tkS]
      refine tk1 5 45 rfl ?_
      simp only [Act.put, tka, tk0, tkS]
      refine tk1 6 46 rfl ?_
      simp only [Act.put, tka, tk0, tkS]
      refine wpAnyH_ready (rs := [9]) (by kernel_rfl) (by simp) ?_
      refine AllReadyH.cons (o := ⟨some 49, _, _, _, _, _⟩) rfl (fun K hK => ?_) AllReadyH.nil
      go_simp
      go_at_call 37; refine (HRn.out _).mono ?_; rintro e w' ⟨rfl, mn, rfl⟩
      refine hK.out _ _ (by (try dsimp only); exact ⟨n0, n1, n2, n3, n4, n5⟩) ?_
      clear hK K hHeld
      intro hHeld
      try simp only [Act.put, tka, tk0, tkS]
      refine tk1 10 50 rfl ?_
      simp only [Act.put, tka, tk0, tkS]
      refine tk1 11 5 rfl ?_
      simp only [Act.put, tka, tk0, tkS]
      refine wpAnyH_done (by kernel_rfl) ?_ _
      go_wp2_with fail
      go_ret
      exact ⟨by rw [HX.out]; rfl, by repeat (first | exact HB7.out | refine bd_ ?_ _ | refine Below.drew ?_ | refine bl_ ?_ _)⟩)
  ·first
    | exact absurd hneg (by have q1 := HRB.out; have q2 := HRC.out; unfold b0k at q1; unfold b0d at q2; omega)
    | (
     go_wp2_with fail
     refine (m1n _).mono ?_
     rintro e w7 ⟨rfl, hb⟩
     have HB7 := h_ (bt_ (bd_ HB2.out _) hb)
     have HN7 := h_ ((HN2.out.dn _).below hb)
     have hlt7 := HN7.out.lt
     clear hb n0 n1 n2 n3 n4 n5 hlt HB2 HN2
     obtain ⟨n0, n1, n2, n3, n4, n5⟩ := a0b HN7.out
     by_cases hz : imm = 0
     ·subst hz
      obtain ⟨A1, hA1, hcat1⟩ := catx (P := Tryz.prog) [83, 84, 82, 32] (regL d) (x := ({ data := #[83, 84, 82] } ++ { data := #[32] } : ByteArray)) (by kernel_rfl) (y := (ba (regL d))) rfl (by simp; omega)
      obtain ⟨A2, hA2, hcat2⟩ := catx (P := Tryz.prog) A1 [44, 91] (x := (ba A1)) rfl (y := { data := #[44, 91] }) rfl (by rw [hA1]; simp; omega)
      obtain ⟨A3, hA3, hcat3⟩ := catx (P := Tryz.prog) A2 (regL n) (x := (ba A2)) rfl (y := (ba (regL n))) rfl (by rw [hA2]; rw [hA1]; simp; omega)
      obtain ⟨A4, hA4, hcat4⟩ := catx (P := Tryz.prog) A3 [93] (x := (ba A3)) rfl (y := { data := #[93] }) rfl (by rw [hA3]; rw [hA2]; rw [hA1]; simp; omega)
      have HX := h_ (show a0d 3 d n m 0 kind = A4 by rw [HP.out, hA4, hA3, hA2, hA1]; unfold b0g; simp [c0x])
      clear hA1 hA2 hA3 hA4
      go_wp2_with fail
      refine wp_region_held_drew (S := (fun w' => w'.cell? ⟨w.heap.size, 0, none⟩ = some (.int .i64 3) ∧ w'.cell? ⟨w.heap.size, 1, none⟩ = some (.int .i64 d) ∧ w'.cell? ⟨w.heap.size, 2, none⟩ = some (.int .i64 n) ∧ w'.cell? ⟨w.heap.size, 3, none⟩ = some (.int .i64 m) ∧ w'.cell? ⟨w.heap.size, 4, none⟩ = some (.int .i64 0) ∧ w'.cell? ⟨w.heap.size, 5, none⟩ = some (.int .i64 kind))) (by kernel_rfl) (by (try dsimp only); exact ⟨n0, n1, n2, n3, n4, n5⟩) (fun hHeld => ?_)
      refine tk1 0 40 rfl ?_
      simp only [Act.put, tka, tk0, tkS]
      refine tk1 1 41 rfl ?_
      simp only [Act.put, tka, tk0, tkS]
      refine tk1 2 42 rfl ?_
      simp only [Act.put, tka, tk0, tkS]
      refine tk1 3 43 rfl ?_
      simp only [Act.put, tka, tk0, tkS]
      refine tk1 7 47 rfl ?_
      simp only [Act.put, tka, tk0, tkS]
      refine tk1 8 48 rfl ?_
      simp only [Act.put, tka, tk0, tkS]
      refine wpAnyH_ready (rs := [4]) (by kernel_rfl) (by simp) ?_
      refine AllReadyH.cons (o := ⟨some 44, _, _, _, _, _⟩) rfl (fun K hK => ?_) AllReadyH.nil
      go_simp
      go_at_call 37; refine (HRd.out _).mono ?_; rintro e w' ⟨rfl, md, rfl⟩
      refine hK.out _ _ (by (try dsimp only); exact ⟨n0, n1, n2, n3, n4, n5⟩) ?_
      clear hK K hHeld
      intro hHeld
      try simp only [Act.put, tka, tk0, tkS]
      refine tk1 5 45 rfl ?_
      simp only [Act.put, tka, tk0, tkS]
      refine tk1 6 46 rfl ?_
      simp only [Act.put, tka, tk0, tkS]
      refine wpAnyH_ready (rs := [9]) (by kernel_rfl) (by simp) ?_
      refine AllReadyH.cons (o := ⟨some 49, _, _, _, _, _⟩) rfl (fun K hK => ?_) AllReadyH.nil
      go_simp
      go_at_call 37; refine (HRn.out _).mono ?_; rintro e w' ⟨rfl, mn, rfl⟩
      refine hK.out _ _ (by (try dsimp only); exact ⟨n0, n1, n2, n3, n4, n5⟩) ?_
      clear hK K hHeld
      intro hHeld
      try simp only [Act.put, tka, tk0, tkS]
      refine tk1 10 50 rfl ?_
      simp only [Act.put, tka, tk0, tkS]
      refine tk1 11 5 rfl ?_
      simp only [Act.put, tka, tk0, tkS]
      refine wpAnyH_done (by kernel_rfl) ?_ _
      go_wp2_with fail
      go_ret
      exact ⟨by rw [HX.out]; rfl, by repeat (first | exact HB7.out | refine bd_ ?_ _ | refine Below.drew ?_ | refine bl_ ?_ _)⟩
     ·have hzb : (imm != 0) = true := bne_iff_ne.2 hz
      obtain ⟨A1, hA1, hcat1⟩ := catx (P := Tryz.prog) [83, 84, 82, 32] (regL d) (x := ({ data := #[83, 84, 82] } ++ { data := #[32] } : ByteArray)) (by kernel_rfl) (y := (ba (regL d))) rfl (by simp; omega)
      obtain ⟨A2, hA2, hcat2⟩ := catx (P := Tryz.prog) A1 [44, 91] (x := (ba A1)) rfl (y := { data := #[44, 91] }) rfl (by rw [hA1]; simp; omega)
      obtain ⟨A3, hA3, hcat3⟩ := catx (P := Tryz.prog) A2 (regL n) (x := (ba A2)) rfl (y := (ba (regL n))) rfl (by rw [hA2]; rw [hA1]; simp; omega)
      obtain ⟨A4, hA4, hcat4⟩ := catx (P := Tryz.prog) A3 [44] (x := (ba A3)) rfl (y := { data := #[44] }) rfl (by rw [hA3]; rw [hA2]; rw [hA1]; simp; omega)
      obtain ⟨A5, hA5, hcat5⟩ := catx (P := Tryz.prog) A4 I (x := (ba A4)) rfl (y := (ba I)) rfl (by rw [hA4]; rw [hA3]; rw [hA2]; rw [hA1]; simp; omega)
      obtain ⟨A6, hA6, hcat6⟩ := catx (P := Tryz.prog) A5 [93] (x := (ba A5)) rfl (y := { data := #[93] }) rfl (by rw [hA5]; rw [hA4]; rw [hA3]; rw [hA2]; rw [hA1]; simp; omega)
      have HX := h_ (show a0d 3 d n m imm kind = A6 by rw [HP.out, hA6, hA5, hA4, hA3, hA2, hA1]; unfold b0g; simp [c0x, hz, HIM.out])
      clear hA1 hA2 hA3 hA4 hA5 hA6
      go_wp2_with fail
      refine wp_region_held_drew (S := (fun w' => w'.cell? ⟨w.heap.size, 0, none⟩ = some (.int .i64 3) ∧ w'.cell? ⟨w.heap.size, 1, none⟩ = some (.int .i64 d) ∧ w'.cell? ⟨w.heap.size, 2, none⟩ = some (.int .i64 n) ∧ w'.cell? ⟨w.heap.size, 3, none⟩ = some (.int .i64 m) ∧ w'.cell? ⟨w.heap.size, 4, none⟩ = some (.int .i64 imm) ∧ w'.cell? ⟨w.heap.size, 5, none⟩ = some (.int .i64 kind))) (by kernel_rfl) (by (try dsimp only); exact ⟨n0, n1, n2, n3, n4, n5⟩) (fun hHeld => ?_)
      refine tk1 0 40 rfl ?_
      simp only [Act.put, tka, tk0, tkS]
      refine tk1 1 41 rfl ?_
      simp only [Act.put, tka, tk0, tkS]
      refine tk1 2 42 rfl ?_
      simp only [Act.put, tka, tk0, tkS]
      refine tk1 3 43 rfl ?_
      simp only [Act.put, tka, tk0, tkS]
      refine tk1 7 47 rfl ?_
      simp only [Act.put, tka, tk0, tkS]
      refine tk1 8 48 rfl ?_
      simp only [Act.put, tka, tk0, tkS]
      refine wpAnyH_ready (rs := [4]) (by kernel_rfl) (by simp) ?_
      refine AllReadyH.cons (o := ⟨some 44, _, _, _, _, _⟩) rfl (fun K hK => ?_) AllReadyH.nil
      go_simp
      go_at_call 37; refine (HRd.out _).mono ?_; rintro e w' ⟨rfl, md, rfl⟩
      refine hK.out _ _ (by (try dsimp only); exact ⟨n0, n1, n2, n3, n4, n5⟩) ?_
      clear hK K hHeld
      intro hHeld
      try simp only [Act.put, tka, tk0, tkS]
      refine tk1 5 45 rfl ?_
      simp only [Act.put, tka, tk0, tkS]
      refine tk1 6 46 rfl ?_
      simp only [Act.put, tka, tk0, tkS]
      refine wpAnyH_ready (rs := [9]) (by kernel_rfl) (by simp) ?_
      refine AllReadyH.cons (o := ⟨some 49, _, _, _, _, _⟩) rfl (fun K hK => ?_) AllReadyH.nil
      go_simp
      go_at_call 37; refine (HRn.out _).mono ?_; rintro e w' ⟨rfl, mn, rfl⟩
      refine hK.out _ _ (by (try dsimp only); exact ⟨n0, n1, n2, n3, n4, n5⟩) ?_
      clear hK K hHeld
      intro hHeld
      try simp only [Act.put, tka, tk0, tkS]
      refine tk1 10 50 rfl ?_
      simp only [Act.put, tka, tk0, tkS]
      refine tk1 11 5 rfl ?_
      simp only [Act.put, tka, tk0, tkS]
      refine wpAnyH_done (by kernel_rfl) ?_ _
      go_wp2_with fail
      go_ret
      exact ⟨by rw [HX.out]; rfl, by repeat (first | exact HB7.out | refine bd_ ?_ _ | refine Below.drew ?_ | refine bl_ ?_ _)⟩)
  ·first
    | exact absurd hneg (by have q1 := HRB.out; have q2 := HRC.out; unfold b0k at q1; unfold b0d at q2; omega)
    | (
     go_wp2_with fail
     refine (m1m _).mono ?_
     rintro e w7 ⟨rfl, hb⟩
     have HB7 := h_ (bt_ (bd_ HB2.out _) hb)
     have HN7 := h_ ((HN2.out.dn _).below hb)
     have hlt7 := HN7.out.lt
     clear hb n0 n1 n2 n3 n4 n5 hlt HB2 HN2
     obtain ⟨n0, n1, n2, n3, n4, n5⟩ := a0b HN7.out
     have hz : imm = 0 := by have := HRB.out; unfold b0k at this; omega
     subst hz
     obtain ⟨A1, hA1, hcat1⟩ := catx (P := Tryz.prog) [76, 68, 65, 82, 32] (regL d) (x := ({ data := #[76, 68, 65, 82] } ++ { data := #[32] } : ByteArray)) (by kernel_rfl) (y := (ba (regL d))) rfl (by simp; omega)
     obtain ⟨A2, hA2, hcat2⟩ := catx (P := Tryz.prog) A1 [44, 91] (x := (ba A1)) rfl (y := { data := #[44, 91] }) rfl (by rw [hA1]; simp; omega)
     obtain ⟨A3, hA3, hcat3⟩ := catx (P := Tryz.prog) A2 (regL n) (x := (ba A2)) rfl (y := (ba (regL n))) rfl (by rw [hA2]; rw [hA1]; simp; omega)
     obtain ⟨A4, hA4, hcat4⟩ := catx (P := Tryz.prog) A3 [93] (x := (ba A3)) rfl (y := { data := #[93] }) rfl (by rw [hA3]; rw [hA2]; rw [hA1]; simp; omega)
     have HX := h_ (show a0d 4 d n m 0 kind = A4 by rw [HP.out, hA4, hA3, hA2, hA1]; unfold b0g; simp [c0x])
     clear hA1 hA2 hA3 hA4
     go_wp2_with fail
     refine wp_region_held_drew (S := (fun w' => w'.cell? ⟨w.heap.size, 0, none⟩ = some (.int .i64 4) ∧ w'.cell? ⟨w.heap.size, 1, none⟩ = some (.int .i64 d) ∧ w'.cell? ⟨w.heap.size, 2, none⟩ = some (.int .i64 n) ∧ w'.cell? ⟨w.heap.size, 3, none⟩ = some (.int .i64 m) ∧ w'.cell? ⟨w.heap.size, 4, none⟩ = some (.int .i64 0) ∧ w'.cell? ⟨w.heap.size, 5, none⟩ = some (.int .i64 kind))) (by kernel_rfl) (by (try dsimp only); exact ⟨n0, n1, n2, n3, n4, n5⟩) (fun hHeld => ?_)
     refine tk1 0 40 rfl ?_
     simp only [Act.put, tka, tk0, tkS]
     refine tk1 1 41 rfl ?_
     simp only [Act.put, tka, tk0, tkS]
     refine tk1 2 42 rfl ?_
     simp only [Act.put, tka, tk0, tkS]
     refine tk1 3 43 rfl ?_
     simp only [Act.put, tka, tk0, tkS]
     refine tk1 7 47 rfl ?_
     simp only [Act.put, tka, tk0, tkS]
     refine tk1 8 48 rfl ?_
     simp only [Act.put, tka, tk0, tkS]
     refine wpAnyH_ready (rs := [4]) (by kernel_rfl) (by simp) ?_
     refine AllReadyH.cons (o := ⟨some 44, _, _, _, _, _⟩) rfl (fun K hK => ?_) AllReadyH.nil
     go_simp
     go_at_call 37; refine (HRd.out _).mono ?_; rintro e w' ⟨rfl, md, rfl⟩
     refine hK.out _ _ (by (try dsimp only); exact ⟨n0, n1, n2, n3, n4, n5⟩) ?_
     clear hK K hHeld
     intro hHeld
     try simp only [Act.put, tka, tk0, tkS]
     refine tk1 5 45 rfl ?_
     simp only [Act.put, tka, tk0, tkS]
     refine tk1 6 46 rfl ?_
     simp only [Act.put, tka, tk0, tkS]
     refine wpAnyH_ready (rs := [9]) (by kernel_rfl) (by simp) ?_
     refine AllReadyH.cons (o := ⟨some 49, _, _, _, _, _⟩) rfl (fun K hK => ?_) AllReadyH.nil
     go_simp
     go_at_call 37; refine (HRn.out _).mono ?_; rintro e w' ⟨rfl, mn, rfl⟩
     refine hK.out _ _ (by (try dsimp only); exact ⟨n0, n1, n2, n3, n4, n5⟩) ?_
     clear hK K hHeld
     intro hHeld
     try simp only [Act.put, tka, tk0, tkS]
     refine tk1 10 50 rfl ?_
     simp only [Act.put, tka, tk0, tkS]
     refine tk1 11 5 rfl ?_
     simp only [Act.put, tka, tk0, tkS]
     refine wpAnyH_done (by kernel_rfl) ?_ _
     go_wp2_with fail
     go_ret
     exact ⟨by rw [HX.out]; rfl, by repeat (first | exact HB7.out | refine bd_ ?_ _ | refine Below.drew ?_ | refine bl_ ?_ _)⟩)
  ·first
    | exact absurd hneg (by have q1 := HRB.out; have q2 := HRC.out; unfold b0k at q1; unfold b0d at q2; omega)
    | (
     go_wp2_with fail
     refine (m1l _).mono ?_
     rintro e w7 ⟨rfl, hb⟩
     have HB7 := h_ (bt_ (bd_ HB2.out _) hb)
     have HN7 := h_ ((HN2.out.dn _).below hb)
     have hlt7 := HN7.out.lt
     clear hb n0 n1 n2 n3 n4 n5 hlt HB2 HN2
     obtain ⟨n0, n1, n2, n3, n4, n5⟩ := a0b HN7.out
     have hz : imm = 0 := by have := HRB.out; unfold b0k at this; omega
     subst hz
     obtain ⟨A1, hA1, hcat1⟩ := catx (P := Tryz.prog) [83, 84, 76, 82, 32] (regL d) (x := ({ data := #[83, 84, 76, 82] } ++ { data := #[32] } : ByteArray)) (by kernel_rfl) (y := (ba (regL d))) rfl (by simp; omega)
     obtain ⟨A2, hA2, hcat2⟩ := catx (P := Tryz.prog) A1 [44, 91] (x := (ba A1)) rfl (y := { data := #[44, 91] }) rfl (by rw [hA1]; simp; omega)
     obtain ⟨A3, hA3, hcat3⟩ := catx (P := Tryz.prog) A2 (regL n) (x := (ba A2)) rfl (y := (ba (regL n))) rfl (by rw [hA2]; rw [hA1]; simp; omega)
     obtain ⟨A4, hA4, hcat4⟩ := catx (P := Tryz.prog) A3 [93] (x := (ba A3)) rfl (y := { data := #[93] }) rfl (by rw [hA3]; rw [hA2]; rw [hA1]; simp; omega)
     have HX := h_ (show a0d 5 d n m 0 kind = A4 by rw [HP.out, hA4, hA3, hA2, hA1]; unfold b0g; simp [c0x])
     clear hA1 hA2 hA3 hA4
     go_wp2_with fail
     refine wp_region_held_drew (S := (fun w' => w'.cell? ⟨w.heap.size, 0, none⟩ = some (.int .i64 5) ∧ w'.cell? ⟨w.heap.size, 1, none⟩ = some (.int .i64 d) ∧ w'.cell? ⟨w.heap.size, 2, none⟩ = some (.int .i64 n) ∧ w'.cell? ⟨w.heap.size, 3, none⟩ = some (.int .i64 m) ∧ w'.cell? ⟨w.heap.size, 4, none⟩ = some (.int .i64 0) ∧ w'.cell? ⟨w.heap.size, 5, none⟩ = some (.int .i64 kind))) (by kernel_rfl) (by (try dsimp only); exact ⟨n0, n1, n2, n3, n4, n5⟩) (fun hHeld => ?_)
     refine tk1 0 40 rfl ?_
     simp only [Act.put, tka, tk0, tkS]
     refine tk1 1 41 rfl ?_
     simp only [Act.put, tka, tk0, tkS]
     refine tk1 2 42 rfl ?_
     simp only [Act.put, tka, tk0, tkS]
     refine tk1 3 43 rfl ?_
     simp only [Act.put, tka, tk0, tkS]
     refine tk1 7 47 rfl ?_
     simp only [Act.put, tka, tk0, tkS]
     refine tk1 8 48 rfl ?_
     simp only [Act.put, tka, tk0, tkS]
     refine wpAnyH_ready (rs := [4]) (by kernel_rfl) (by simp) ?_
     refine AllReadyH.cons (o := ⟨some 44, _, _, _, _, _⟩) rfl (fun K hK => ?_) AllReadyH.nil
     go_simp
     go_at_call 37; refine (HRd.out _).mono ?_; rintro e w' ⟨rfl, md, rfl⟩
     refine hK.out _ _ (by (try dsimp only); exact ⟨n0, n1, n2, n3, n4, n5⟩) ?_
     clear hK K hHeld
     intro hHeld
     try simp only [Act.put, tka, tk0, tkS]
     refine tk1 5 45 rfl ?_
     simp only [Act.put, tka, tk0, tkS]
     refine tk1 6 46 rfl ?_
     simp only [Act.put, tka, tk0, tkS]
     refine wpAnyH_ready (rs := [9]) (by kernel_rfl) (by simp) ?_
     refine AllReadyH.cons (o := ⟨some 49, _, _, _, _, _⟩) rfl (fun K hK => ?_) AllReadyH.nil
     go_simp
     go_at_call 37; refine (HRn.out _).mono ?_; rintro e w' ⟨rfl, mn, rfl⟩
     refine hK.out _ _ (by (try dsimp only); exact ⟨n0, n1, n2, n3, n4, n5⟩) ?_
     clear hK K hHeld
     intro hHeld
     try simp only [Act.put, tka, tk0, tkS]
     refine tk1 10 50 rfl ?_
     simp only [Act.put, tka, tk0, tkS]
     refine tk1 11 5 rfl ?_
     simp only [Act.put, tka, tk0, tkS]
     refine wpAnyH_done (by kernel_rfl) ?_ _
     go_wp2_with fail
     go_ret
     exact ⟨by rw [HX.out]; rfl, by repeat (first | exact HB7.out | refine bd_ ?_ _ | refine Below.drew ?_ | refine bl_ ?_ _)⟩)
  ·first
    | exact absurd hneg (by have q1 := HRB.out; have q2 := HRC.out; unfold b0k at q1; unfold b0d at q2; omega)
    | (
     go_wp2_with fail
     refine (m1k _).mono ?_
     rintro e w7 ⟨rfl, hb⟩
     have HB7 := h_ (bt_ (bd_ HB2.out _) hb)
     have HN7 := h_ ((HN2.out.dn _).below hb)
     have hlt7 := HN7.out.lt
     clear hb n0 n1 n2 n3 n4 n5 hlt HB2 HN2
     obtain ⟨n0, n1, n2, n3, n4, n5⟩ := a0b HN7.out
     by_cases hz : kind = 0
     ·subst hz
      obtain ⟨A1, hA1, hcat1⟩ := catx (P := Tryz.prog) [77, 79, 86, 32] (regL d) (x := ({ data := #[77, 79, 86, 32] } : ByteArray)) rfl (y := (ba (regL d))) rfl (by simp; omega)
      obtain ⟨A2, hA2, hcat2⟩ := catx (P := Tryz.prog) A1 [44] (x := (ba A1)) rfl (y := { data := #[44] }) rfl (by rw [hA1]; simp; omega)
      obtain ⟨A3, hA3, hcat3⟩ := catx (P := Tryz.prog) A2 I (x := (ba A2)) rfl (y := (ba I)) rfl (by rw [hA2]; rw [hA1]; simp; omega)
      have HX := h_ (show a0d 6 d n m imm 0 = A3 by rw [HP.out, hA3, hA2, hA1]; unfold b0g; simp [HIM.out])
      clear hA1 hA2 hA3
      go_wp2_with fail
      refine (HRd.out _).mono ?_
      rintro e w' ⟨rfl, md, rfl⟩
      go_wp2_with fail
      go_ret
      exact ⟨by rw [HX.out]; rfl, by repeat (first | exact HB7.out | refine bd_ ?_ _ | refine Below.drew ?_ | refine bl_ ?_ _)⟩
     ·have hk3 : 0 ≤ kind ∧ kind ≤ 3 := by have := HRC.out; unfold b0d at this; omega
      have hkp : 0 < kind := by omega
      have hw16 : IntKind.i64.wrap (16 * kind) = 16 * kind := IntWalk.i64_in _ (by omega)
      have HK := h_ (fun w1 => l0f (16 * kind) w1 (by omega))
      have bK := c0p (16 * kind) (by omega)
      obtain ⟨A1, hA1, hcat1⟩ := catx (P := Tryz.prog) [77, 79, 86, 90, 32] (regL d) (x := ({ data := #[77, 79, 86, 90, 32] } : ByteArray)) rfl (y := (ba (regL d))) rfl (by simp; omega)
      obtain ⟨A2, hA2, hcat2⟩ := catx (P := Tryz.prog) A1 [44] (x := (ba A1)) rfl (y := { data := #[44] }) rfl (by rw [hA1]; simp; omega)
      obtain ⟨A3, hA3, hcat3⟩ := catx (P := Tryz.prog) A2 I (x := (ba A2)) rfl (y := (ba I)) rfl (by rw [hA2]; rw [hA1]; simp; omega)
      obtain ⟨A4, hA4, hcat4⟩ := catx (P := Tryz.prog) A3 [44, 76, 83, 76, 32, 35] (x := (ba A3)) rfl (y := { data := #[44, 76, 83, 76, 32, 35] }) rfl (by rw [hA3]; rw [hA2]; rw [hA1]; simp; omega)
      obtain ⟨A5, hA5, hcat5⟩ := catx (P := Tryz.prog) A4 (intL (16 * kind)) (x := (ba A4)) rfl (y := (ba (intL (16 * kind)))) rfl (by rw [hA4]; rw [hA3]; rw [hA2]; rw [hA1]; simp; omega)
      have HX := h_ (show a0d 6 d n m imm kind = A5 by rw [HP.out, hA5, hA4, hA3, hA2, hA1]; unfold b0g; simp [hz, HIM.out])
      clear hA1 hA2 hA3 hA4 hA5
      go_wp2_with fail
      refine wp_region_held_drew (S := (fun w' => w'.cell? ⟨w.heap.size, 0, none⟩ = some (.int .i64 6) ∧ w'.cell? ⟨w.heap.size, 1, none⟩ = some (.int .i64 d) ∧ w'.cell? ⟨w.heap.size, 2, none⟩ = some (.int .i64 n) ∧ w'.cell? ⟨w.heap.size, 3, none⟩ = some (.int .i64 m) ∧ w'.cell? ⟨w.heap.size, 4, none⟩ = some (.int .i64 imm) ∧ w'.cell? ⟨w.heap.size, 5, none⟩ = some (.int .i64 kind))) (by kernel_rfl) (by (try dsimp only); exact ⟨n0, n1, n2, n3, n4, n5⟩) (fun hHeld => ?_)
      refine tk1 0 65 rfl ?_
      simp only [Act.put, tka, tk0, tkS]
      refine tk1 1 66 rfl ?_
      simp only [Act.put, tka, tk0, tkS]
      refine tk1 5 70 rfl ?_
      simp only [Act.put, tka, tk0, tkS]
      refine tk1 8 73 rfl ?_
      simp only [Act.put, tka, tk0, tkS]
      refine tk1 9 74 rfl ?_
      simp only [Act.put, tka, tk0, tkS]
      refine tk1 10 75 rfl ?_
      simp only [Act.put, tka, tk0, tkS]
      refine wpAnyH_ready (rs := [2]) (by kernel_rfl) (by simp) ?_
      refine AllReadyH.cons (o := ⟨some 67, _, _, _, _, _⟩) rfl (fun K hK => ?_) AllReadyH.nil
      go_simp
      go_at_call 37; refine (HRd.out _).mono ?_; rintro e w' ⟨rfl, md, rfl⟩
      refine hK.out _ _ (by (try dsimp only); exact ⟨n0, n1, n2, n3, n4, n5⟩) ?_
      clear hK K hHeld
      intro hHeld
      try simp only [Act.put, tka, tk0, tkS]
      refine tk1 3 68 rfl ?_
      simp only [Act.put, tka, tk0, tkS]
      refine tk1 4 69 rfl ?_
      simp only [Act.put, tka, tk0, tkS]
      refine tk1 6 71 rfl ?_
      simp only [Act.put, tka, tk0, tkS]
      refine tk1 7 72 rfl ?_
      simp only [Act.put, tka, tk0, tkS]
      refine wpAnyH_ready (rs := [11]) (by kernel_rfl) (by simp) ?_
      refine AllReadyH.cons (o := ⟨some 76, _, _, _, _, _⟩) rfl (fun K hK => ?_) AllReadyH.nil
      go_simp
      go_at_call 36; refine (HK.out _).mono ?_; rintro e w' ⟨rfl, mk, rfl⟩
      refine hK.out _ _ (by (try dsimp only); exact ⟨n0, n1, n2, n3, n4, n5⟩) ?_
      clear hK K hHeld
      intro hHeld
      try simp only [Act.put, tka, tk0, tkS]
      refine tk1 12 77 rfl ?_
      simp only [Act.put, tka, tk0, tkS]
      refine tk1 13 2 rfl ?_
      simp only [Act.put, tka, tk0, tkS]
      refine wpAnyH_done (by kernel_rfl) ?_ _
      go_wp2_with fail
      go_ret
      exact ⟨by rw [HX.out]; rfl, by repeat (first | exact HB7.out | refine bd_ ?_ _ | refine Below.drew ?_ | refine bl_ ?_ _)⟩)
  ·first
    | exact absurd hneg (by have q1 := HRB.out; have q2 := HRC.out; unfold b0k at q1; unfold b0d at q2; omega)
    | (
     go_wp2_with fail
     refine (m1j _).mono ?_
     rintro e w7 ⟨rfl, hb⟩
     have HB7 := h_ (bt_ (bd_ HB2.out _) hb)
     have HN7 := h_ ((HN2.out.dn _).below hb)
     have hlt7 := HN7.out.lt
     clear hb n0 n1 n2 n3 n4 n5 hlt HB2 HN2
     obtain ⟨n0, n1, n2, n3, n4, n5⟩ := a0b HN7.out
     obtain ⟨A1, hA1, hcat1⟩ := catx (P := Tryz.prog) [65, 68, 68, 32] (regL d) (x := ({ data := #[65, 68, 68] } ++ { data := #[32] } : ByteArray)) (by kernel_rfl) (y := (ba (regL d))) rfl (by simp; omega)
     obtain ⟨A2, hA2, hcat2⟩ := catx (P := Tryz.prog) A1 [44] (x := (ba A1)) rfl (y := { data := #[44] }) rfl (by rw [hA1]; simp; omega)
     obtain ⟨A3, hA3, hcat3⟩ := catx (P := Tryz.prog) A2 (regL n) (x := (ba A2)) rfl (y := (ba (regL n))) rfl (by rw [hA2]; rw [hA1]; simp; omega)
     obtain ⟨A4, hA4, hcat4⟩ := catx (P := Tryz.prog) A3 [44] (x := (ba A3)) rfl (y := { data := #[44] }) rfl (by rw [hA3]; rw [hA2]; rw [hA1]; simp; omega)
     obtain ⟨A5, hA5, hcat5⟩ := catx (P := Tryz.prog) A4 I (x := (ba A4)) rfl (y := (ba I)) rfl (by rw [hA4]; rw [hA3]; rw [hA2]; rw [hA1]; simp; omega)
     have HX := h_ (show a0d 7 d n m imm kind = A5 by rw [HP.out, hA5, hA4, hA3, hA2, hA1]; unfold b0g; simp [HIM.out])
     clear hA1 hA2 hA3 hA4 hA5
     go_wp2_with fail
     refine wp_region_held_drew (S := (fun w' => w'.cell? ⟨w.heap.size, 0, none⟩ = some (.int .i64 7) ∧ w'.cell? ⟨w.heap.size, 1, none⟩ = some (.int .i64 d) ∧ w'.cell? ⟨w.heap.size, 2, none⟩ = some (.int .i64 n) ∧ w'.cell? ⟨w.heap.size, 3, none⟩ = some (.int .i64 m) ∧ w'.cell? ⟨w.heap.size, 4, none⟩ = some (.int .i64 imm) ∧ w'.cell? ⟨w.heap.size, 5, none⟩ = some (.int .i64 kind))) (by kernel_rfl) (by (try dsimp only); exact ⟨n0, n1, n2, n3, n4, n5⟩) (fun hHeld => ?_)
     refine tk1 0 87 rfl ?_
     simp only [Act.put, tka, tk0, tkS]
     refine tk1 1 88 rfl ?_
     simp only [Act.put, tka, tk0, tkS]
     refine tk1 2 89 rfl ?_
     simp only [Act.put, tka, tk0, tkS]
     refine tk1 3 90 rfl ?_
     simp only [Act.put, tka, tk0, tkS]
     refine tk1 7 94 rfl ?_
     simp only [Act.put, tka, tk0, tkS]
     refine tk1 8 95 rfl ?_
     simp only [Act.put, tka, tk0, tkS]
     refine tk1 12 99 rfl ?_
     simp only [Act.put, tka, tk0, tkS]
     refine wpAnyH_ready (rs := [4]) (by kernel_rfl) (by simp) ?_
     refine AllReadyH.cons (o := ⟨some 91, _, _, _, _, _⟩) rfl (fun K hK => ?_) AllReadyH.nil
     go_simp
     go_at_call 37; refine (HRd.out _).mono ?_; rintro e w' ⟨rfl, md, rfl⟩
     refine hK.out _ _ (by (try dsimp only); exact ⟨n0, n1, n2, n3, n4, n5⟩) ?_
     clear hK K hHeld
     intro hHeld
     try simp only [Act.put, tka, tk0, tkS]
     refine tk1 5 92 rfl ?_
     simp only [Act.put, tka, tk0, tkS]
     refine tk1 6 93 rfl ?_
     simp only [Act.put, tka, tk0, tkS]
     refine wpAnyH_ready (rs := [9]) (by kernel_rfl) (by simp) ?_
     refine AllReadyH.cons (o := ⟨some 96, _, _, _, _, _⟩) rfl (fun K hK => ?_) AllReadyH.nil
     go_simp
     go_at_call 37; refine (HRn.out _).mono ?_; rintro e w' ⟨rfl, mn, rfl⟩
     refine hK.out _ _ (by (try dsimp only); exact ⟨n0, n1, n2, n3, n4, n5⟩) ?_
     clear hK K hHeld
     intro hHeld
     try simp only [Act.put, tka, tk0, tkS]
     refine tk1 10 97 rfl ?_
     simp only [Act.put, tka, tk0, tkS]
     refine tk1 11 98 rfl ?_
     simp only [Act.put, tka, tk0, tkS]
     refine tk1 13 100 rfl ?_
     simp only [Act.put, tka, tk0, tkS]
     refine tk1 14 2 rfl ?_
     simp only [Act.put, tka, tk0, tkS]
     refine wpAnyH_done (by kernel_rfl) ?_ _
     go_wp2_with fail
     go_ret
     exact ⟨by rw [HX.out]; rfl, by repeat (first | exact HB7.out | refine bd_ ?_ _ | refine Below.drew ?_ | refine bl_ ?_ _)⟩)
  ·first
    | exact absurd hneg (by have q1 := HRB.out; have q2 := HRC.out; unfold b0k at q1; unfold b0d at q2; omega)
    | (
     go_wp2_with fail
     refine (m1i _).mono ?_
     rintro e w7 ⟨rfl, hb⟩
     have HB7 := h_ (bt_ (bd_ HB2.out _) hb)
     have HN7 := h_ ((HN2.out.dn _).below hb)
     have hlt7 := HN7.out.lt
     clear hb n0 n1 n2 n3 n4 n5 hlt HB2 HN2
     obtain ⟨n0, n1, n2, n3, n4, n5⟩ := a0b HN7.out
     obtain ⟨A1, hA1, hcat1⟩ := catx (P := Tryz.prog) [65, 68, 68, 32] (regL d) (x := ({ data := #[65, 68, 68] } ++ { data := #[32] } : ByteArray)) (by kernel_rfl) (y := (ba (regL d))) rfl (by simp; omega)
     obtain ⟨A2, hA2, hcat2⟩ := catx (P := Tryz.prog) A1 [44] (x := (ba A1)) rfl (y := { data := #[44] }) rfl (by rw [hA1]; simp; omega)
     obtain ⟨A3, hA3, hcat3⟩ := catx (P := Tryz.prog) A2 (regL n) (x := (ba A2)) rfl (y := (ba (regL n))) rfl (by rw [hA2]; rw [hA1]; simp; omega)
     obtain ⟨A4, hA4, hcat4⟩ := catx (P := Tryz.prog) A3 [44] (x := (ba A3)) rfl (y := { data := #[44] }) rfl (by rw [hA3]; rw [hA2]; rw [hA1]; simp; omega)
     obtain ⟨A5, hA5, hcat5⟩ := catx (P := Tryz.prog) A4 (regL m) (x := (ba A4)) rfl (y := (ba (regL m))) rfl (by rw [hA4]; rw [hA3]; rw [hA2]; rw [hA1]; simp; omega)
     have HX := h_ (show a0d 8 d n m imm kind = A5 by rw [HP.out, hA5, hA4, hA3, hA2, hA1]; unfold b0g; simp [i0p, c0x])
     clear hA1 hA2 hA3 hA4 hA5
     go_wp2_with fail
     refine wp_region_held_drew (S := (fun w' => w'.cell? ⟨w.heap.size, 0, none⟩ = some (.int .i64 8) ∧ w'.cell? ⟨w.heap.size, 1, none⟩ = some (.int .i64 d) ∧ w'.cell? ⟨w.heap.size, 2, none⟩ = some (.int .i64 n) ∧ w'.cell? ⟨w.heap.size, 3, none⟩ = some (.int .i64 m) ∧ w'.cell? ⟨w.heap.size, 4, none⟩ = some (.int .i64 imm) ∧ w'.cell? ⟨w.heap.size, 5, none⟩ = some (.int .i64 kind))) (by kernel_rfl) (by (try dsimp only); exact ⟨n0, n1, n2, n3, n4, n5⟩) (fun hHeld => ?_)
     refine tk1 0 189 rfl ?_
     simp only [Act.put, tka, tk0, tkS]
     refine tk1 1 190 rfl ?_
     simp only [Act.put, tka, tk0, tkS]
     refine tk1 2 191 rfl ?_
     simp only [Act.put, tka, tk0, tkS]
     refine tk1 3 192 rfl ?_
     simp only [Act.put, tka, tk0, tkS]
     refine tk1 7 196 rfl ?_
     simp only [Act.put, tka, tk0, tkS]
     refine tk1 8 197 rfl ?_
     simp only [Act.put, tka, tk0, tkS]
     refine tk1 12 201 rfl ?_
     simp only [Act.put, tka, tk0, tkS]
     refine tk1 13 202 rfl ?_
     simp only [Act.put, tka, tk0, tkS]
     refine wpAnyH_ready (rs := [4]) (by kernel_rfl) (by simp) ?_
     refine AllReadyH.cons (o := ⟨some 193, _, _, _, _, _⟩) rfl (fun K hK => ?_) AllReadyH.nil
     go_simp
     go_at_call 37; refine (HRd.out _).mono ?_; rintro e w' ⟨rfl, md, rfl⟩
     refine hK.out _ _ (by (try dsimp only); exact ⟨n0, n1, n2, n3, n4, n5⟩) ?_
     clear hK K hHeld
     intro hHeld
     try simp only [Act.put, tka, tk0, tkS]
     refine tk1 5 194 rfl ?_
     simp only [Act.put, tka, tk0, tkS]
     refine tk1 6 195 rfl ?_
     simp only [Act.put, tka, tk0, tkS]
     refine wpAnyH_ready (rs := [9]) (by kernel_rfl) (by simp) ?_
     refine AllReadyH.cons (o := ⟨some 198, _, _, _, _, _⟩) rfl (fun K hK => ?_) AllReadyH.nil
     go_simp
     go_at_call 37; refine (HRn.out _).mono ?_; rintro e w' ⟨rfl, mn, rfl⟩
     refine hK.out _ _ (by (try dsimp only); exact ⟨n0, n1, n2, n3, n4, n5⟩) ?_
     clear hK K hHeld
     intro hHeld
     try simp only [Act.put, tka, tk0, tkS]
     refine tk1 10 199 rfl ?_
     simp only [Act.put, tka, tk0, tkS]
     refine tk1 11 200 rfl ?_
     simp only [Act.put, tka, tk0, tkS]
     refine wpAnyH_ready (rs := [14]) (by kernel_rfl) (by simp) ?_
     refine AllReadyH.cons (o := ⟨some 203, _, _, _, _, _⟩) rfl (fun K hK => ?_) AllReadyH.nil
     go_simp
     go_at_call 37; refine (HRm.out _).mono ?_; rintro e w' ⟨rfl, mm, rfl⟩
     refine hK.out _ _ (by (try dsimp only); exact ⟨n0, n1, n2, n3, n4, n5⟩) ?_
     clear hK K hHeld
     intro hHeld
     try simp only [Act.put, tka, tk0, tkS]
     refine tk1 15 204 rfl ?_
     simp only [Act.put, tka, tk0, tkS]
     refine tk1 16 2 rfl ?_
     simp only [Act.put, tka, tk0, tkS]
     refine wpAnyH_done (by kernel_rfl) ?_ _
     go_wp2_with fail
     go_ret
     exact ⟨by rw [HX.out]; rfl, by repeat (first | exact HB7.out | refine bd_ ?_ _ | refine Below.drew ?_ | refine bl_ ?_ _)⟩)
  ·first
    | exact absurd hneg (by have q1 := HRB.out; have q2 := HRC.out; unfold b0k at q1; unfold b0d at q2; omega)
    | (
     go_wp2_with fail
     refine (m1h _).mono ?_
     rintro e w7 ⟨rfl, hb⟩
     have HB7 := h_ (bt_ (bd_ HB2.out _) hb)
     have HN7 := h_ ((HN2.out.dn _).below hb)
     have hlt7 := HN7.out.lt
     clear hb n0 n1 n2 n3 n4 n5 hlt HB2 HN2
     obtain ⟨n0, n1, n2, n3, n4, n5⟩ := a0b HN7.out
     obtain ⟨A1, hA1, hcat1⟩ := catx (P := Tryz.prog) [83, 85, 66, 32] (regL d) (x := ({ data := #[83, 85, 66] } ++ { data := #[32] } : ByteArray)) (by kernel_rfl) (y := (ba (regL d))) rfl (by simp; omega)
     obtain ⟨A2, hA2, hcat2⟩ := catx (P := Tryz.prog) A1 [44] (x := (ba A1)) rfl (y := { data := #[44] }) rfl (by rw [hA1]; simp; omega)
     obtain ⟨A3, hA3, hcat3⟩ := catx (P := Tryz.prog) A2 (regL n) (x := (ba A2)) rfl (y := (ba (regL n))) rfl (by rw [hA2]; rw [hA1]; simp; omega)
     obtain ⟨A4, hA4, hcat4⟩ := catx (P := Tryz.prog) A3 [44] (x := (ba A3)) rfl (y := { data := #[44] }) rfl (by rw [hA3]; rw [hA2]; rw [hA1]; simp; omega)
     obtain ⟨A5, hA5, hcat5⟩ := catx (P := Tryz.prog) A4 (regL m) (x := (ba A4)) rfl (y := (ba (regL m))) rfl (by rw [hA4]; rw [hA3]; rw [hA2]; rw [hA1]; simp; omega)
     have HX := h_ (show a0d 9 d n m imm kind = A5 by rw [HP.out, hA5, hA4, hA3, hA2, hA1]; unfold b0g; simp [i0p, c0x])
     clear hA1 hA2 hA3 hA4 hA5
     go_wp2_with fail
     refine wp_region_held_drew (S := (fun w' => w'.cell? ⟨w.heap.size, 0, none⟩ = some (.int .i64 9) ∧ w'.cell? ⟨w.heap.size, 1, none⟩ = some (.int .i64 d) ∧ w'.cell? ⟨w.heap.size, 2, none⟩ = some (.int .i64 n) ∧ w'.cell? ⟨w.heap.size, 3, none⟩ = some (.int .i64 m) ∧ w'.cell? ⟨w.heap.size, 4, none⟩ = some (.int .i64 imm) ∧ w'.cell? ⟨w.heap.size, 5, none⟩ = some (.int .i64 kind))) (by kernel_rfl) (by (try dsimp only); exact ⟨n0, n1, n2, n3, n4, n5⟩) (fun hHeld => ?_)
     refine tk1 0 189 rfl ?_
     simp only [Act.put, tka, tk0, tkS]
     refine tk1 1 190 rfl ?_
     simp only [Act.put, tka, tk0, tkS]
     refine tk1 2 191 rfl ?_
     simp only [Act.put, tka, tk0, tkS]
     refine tk1 3 192 rfl ?_
     simp only [Act.put, tka, tk0, tkS]
     refine tk1 7 196 rfl ?_
     simp only [Act.put, tka, tk0, tkS]
     refine tk1 8 197 rfl ?_
     simp only [Act.put, tka, tk0, tkS]
     refine tk1 12 201 rfl ?_
     simp only [Act.put, tka, tk0, tkS]
     refine tk1 13 202 rfl ?_
     simp only [Act.put, tka, tk0, tkS]
     refine wpAnyH_ready (rs := [4]) (by kernel_rfl) (by simp) ?_
     refine AllReadyH.cons (o := ⟨some 193, _, _, _, _, _⟩) rfl (fun K hK => ?_) AllReadyH.nil
     go_simp
     go_at_call 37; refine (HRd.out _).mono ?_; rintro e w' ⟨rfl, md, rfl⟩
     refine hK.out _ _ (by (try dsimp only); exact ⟨n0, n1, n2, n3, n4, n5⟩) ?_
     clear hK K hHeld
     intro hHeld
     try simp only [Act.put, tka, tk0, tkS]
     refine tk1 5 194 rfl ?_
     simp only [Act.put, tka, tk0, tkS]
     refine tk1 6 195 rfl ?_
     simp only [Act.put, tka, tk0, tkS]
     refine wpAnyH_ready (rs := [9]) (by kernel_rfl) (by simp) ?_
     refine AllReadyH.cons (o := ⟨some 198, _, _, _, _, _⟩) rfl (fun K hK => ?_) AllReadyH.nil
     go_simp
     go_at_call 37; refine (HRn.out _).mono ?_; rintro e w' ⟨rfl, mn, rfl⟩
     refine hK.out _ _ (by (try dsimp only); exact ⟨n0, n1, n2, n3, n4, n5⟩) ?_
     clear hK K hHeld
     intro hHeld
     try simp only [Act.put, tka, tk0, tkS]
     refine tk1 10 199 rfl ?_
     simp only [Act.put, tka, tk0, tkS]
     refine tk1 11 200 rfl ?_
     simp only [Act.put, tka, tk0, tkS]
     refine wpAnyH_ready (rs := [14]) (by kernel_rfl) (by simp) ?_
     refine AllReadyH.cons (o := ⟨some 203, _, _, _, _, _⟩) rfl (fun K hK => ?_) AllReadyH.nil
     go_simp
     go_at_call 37; refine (HRm.out _).mono ?_; rintro e w' ⟨rfl, mm, rfl⟩
     refine hK.out _ _ (by (try dsimp only); exact ⟨n0, n1, n2, n3, n4, n5⟩) ?_
     clear hK K hHeld
     intro hHeld
     try simp only [Act.put, tka, tk0, tkS]
     refine tk1 15 204 rfl ?_
     simp only [Act.put, tka, tk0, tkS]
     refine tk1 16 2 rfl ?_
     simp only [Act.put, tka, tk0, tkS]
     refine wpAnyH_done (by kernel_rfl) ?_ _
     go_wp2_with fail
     go_ret
     exact ⟨by rw [HX.out]; rfl, by repeat (first | exact HB7.out | refine bd_ ?_ _ | refine Below.drew ?_ | refine bl_ ?_ _)⟩)
  ·first
    | exact absurd hneg (by have q1 := HRB.out; have q2 := HRC.out; unfold b0k at q1; unfold b0d at q2; omega)
    | (
     go_wp2_with fail
     refine (g1n _).mono ?_
     rintro e w7 ⟨rfl, hb⟩
     have HB7 := h_ (bt_ (bd_ HB2.out _) hb)
     have HN7 := h_ ((HN2.out.dn _).below hb)
     have hlt7 := HN7.out.lt
     clear hb n0 n1 n2 n3 n4 n5 hlt HB2 HN2
     obtain ⟨n0, n1, n2, n3, n4, n5⟩ := a0b HN7.out
     obtain ⟨A1, hA1, hcat1⟩ := catx (P := Tryz.prog) [65, 78, 68, 32] (regL d) (x := ({ data := #[65, 78, 68] } ++ { data := #[32] } : ByteArray)) (by kernel_rfl) (y := (ba (regL d))) rfl (by simp; omega)
     obtain ⟨A2, hA2, hcat2⟩ := catx (P := Tryz.prog) A1 [44] (x := (ba A1)) rfl (y := { data := #[44] }) rfl (by rw [hA1]; simp; omega)
     obtain ⟨A3, hA3, hcat3⟩ := catx (P := Tryz.prog) A2 (regL n) (x := (ba A2)) rfl (y := (ba (regL n))) rfl (by rw [hA2]; rw [hA1]; simp; omega)
     obtain ⟨A4, hA4, hcat4⟩ := catx (P := Tryz.prog) A3 [44] (x := (ba A3)) rfl (y := { data := #[44] }) rfl (by rw [hA3]; rw [hA2]; rw [hA1]; simp; omega)
     obtain ⟨A5, hA5, hcat5⟩ := catx (P := Tryz.prog) A4 (regL m) (x := (ba A4)) rfl (y := (ba (regL m))) rfl (by rw [hA4]; rw [hA3]; rw [hA2]; rw [hA1]; simp; omega)
     have HX := h_ (show a0d 10 d n m imm kind = A5 by rw [HP.out, hA5, hA4, hA3, hA2, hA1]; unfold b0g; simp [i0p, c0x])
     clear hA1 hA2 hA3 hA4 hA5
     go_wp2_with fail
     refine wp_region_held_drew (S := (fun w' => w'.cell? ⟨w.heap.size, 0, none⟩ = some (.int .i64 10) ∧ w'.cell? ⟨w.heap.size, 1, none⟩ = some (.int .i64 d) ∧ w'.cell? ⟨w.heap.size, 2, none⟩ = some (.int .i64 n) ∧ w'.cell? ⟨w.heap.size, 3, none⟩ = some (.int .i64 m) ∧ w'.cell? ⟨w.heap.size, 4, none⟩ = some (.int .i64 imm) ∧ w'.cell? ⟨w.heap.size, 5, none⟩ = some (.int .i64 kind))) (by kernel_rfl) (by (try dsimp only); exact ⟨n0, n1, n2, n3, n4, n5⟩) (fun hHeld => ?_)
     refine tk1 0 189 rfl ?_
     simp only [Act.put, tka, tk0, tkS]
     refine tk1 1 190 rfl ?_
     simp only [Act.put, tka, tk0, tkS]
     refine tk1 2 191 rfl ?_
     simp only [Act.put, tka, tk0, tkS]
     refine tk1 3 192 rfl ?_
     simp only [Act.put, tka, tk0, tkS]
     refine tk1 7 196 rfl ?_
     simp only [Act.put, tka, tk0, tkS]
     refine tk1 8 197 rfl ?_
     simp only [Act.put, tka, tk0, tkS]
     refine tk1 12 201 rfl ?_
     simp only [Act.put, tka, tk0, tkS]
     refine tk1 13 202 rfl ?_
     simp only [Act.put, tka, tk0, tkS]
     refine wpAnyH_ready (rs := [4]) (by kernel_rfl) (by simp) ?_
     refine AllReadyH.cons (o := ⟨some 193, _, _, _, _, _⟩) rfl (fun K hK => ?_) AllReadyH.nil
     go_simp
     go_at_call 37; refine (HRd.out _).mono ?_; rintro e w' ⟨rfl, md, rfl⟩
     refine hK.out _ _ (by (try dsimp only); exact ⟨n0, n1, n2, n3, n4, n5⟩) ?_
     clear hK K hHeld
     intro hHeld
     try simp only [Act.put, tka, tk0, tkS]
     refine tk1 5 194 rfl ?_
     simp only [Act.put, tka, tk0, tkS]
     refine tk1 6 195 rfl ?_
     simp only [Act.put, tka, tk0, tkS]
     refine wpAnyH_ready (rs := [9]) (by kernel_rfl) (by simp) ?_
     refine AllReadyH.cons (o := ⟨some 198, _, _, _, _, _⟩) rfl (fun K hK => ?_) AllReadyH.nil
     go_simp
     go_at_call 37; refine (HRn.out _).mono ?_; rintro e w' ⟨rfl, mn, rfl⟩
     refine hK.out _ _ (by (try dsimp only); exact ⟨n0, n1, n2, n3, n4, n5⟩) ?_
     clear hK K hHeld
     intro hHeld
     try simp only [Act.put, tka, tk0, tkS]
     refine tk1 10 199 rfl ?_
     simp only [Act.put, tka, tk0, tkS]
     refine tk1 11 200 rfl ?_
     simp only [Act.put, tka, tk0, tkS]
     refine wpAnyH_ready (rs := [14]) (by kernel_rfl) (by simp) ?_
     refine AllReadyH.cons (o := ⟨some 203, _, _, _, _, _⟩) rfl (fun K hK => ?_) AllReadyH.nil
     go_simp
     go_at_call 37; refine (HRm.out _).mono ?_; rintro e w' ⟨rfl, mm, rfl⟩
     refine hK.out _ _ (by (try dsimp only); exact ⟨n0, n1, n2, n3, n4, n5⟩) ?_
     clear hK K hHeld
     intro hHeld
     try simp only [Act.put, tka, tk0, tkS]
     refine tk1 15 204 rfl ?_
     simp only [Act.put, tka, tk0, tkS]
     refine tk1 16 2 rfl ?_
     simp only [Act.put, tka, tk0, tkS]
     refine wpAnyH_done (by kernel_rfl) ?_ _
     go_wp2_with fail
     go_ret
     exact ⟨by rw [HX.out]; rfl, by repeat (first | exact HB7.out | refine bd_ ?_ _ | refine Below.drew ?_ | refine bl_ ?_ _)⟩)
  ·first
    | exact absurd hneg (by have q1 := HRB.out; have q2 := HRC.out; unfold b0k at q1; unfold b0d at q2; omega)
    | (
     go_wp2_with fail
     refine (g1m _).mono ?_
     rintro e w7 ⟨rfl, hb⟩
     have HB7 := h_ (bt_ (bd_ HB2.out _) hb)
     have HN7 := h_ ((HN2.out.dn _).below hb)
     have hlt7 := HN7.out.lt
     clear hb n0 n1 n2 n3 n4 n5 hlt HB2 HN2
     obtain ⟨n0, n1, n2, n3, n4, n5⟩ := a0b HN7.out
     obtain ⟨A1, hA1, hcat1⟩ := catx (P := Tryz.prog) [79, 82, 82, 32] (regL d) (x := ({ data := #[79, 82, 82] } ++ { data := #[32] } : ByteArray)) (by kernel_rfl) (y := (ba (regL d))) rfl (by simp; omega)
     obtain ⟨A2, hA2, hcat2⟩ := catx (P := Tryz.prog) A1 [44] (x := (ba A1)) rfl (y := { data := #[44] }) rfl (by rw [hA1]; simp; omega)
     obtain ⟨A3, hA3, hcat3⟩ := catx (P := Tryz.prog) A2 (regL n) (x := (ba A2)) rfl (y := (ba (regL n))) rfl (by rw [hA2]; rw [hA1]; simp; omega)
     obtain ⟨A4, hA4, hcat4⟩ := catx (P := Tryz.prog) A3 [44] (x := (ba A3)) rfl (y := { data := #[44] }) rfl (by rw [hA3]; rw [hA2]; rw [hA1]; simp; omega)
     obtain ⟨A5, hA5, hcat5⟩ := catx (P := Tryz.prog) A4 (regL m) (x := (ba A4)) rfl (y := (ba (regL m))) rfl (by rw [hA4]; rw [hA3]; rw [hA2]; rw [hA1]; simp; omega)
     have HX := h_ (show a0d 11 d n m imm kind = A5 by rw [HP.out, hA5, hA4, hA3, hA2, hA1]; unfold b0g; simp [i0p, c0x])
     clear hA1 hA2 hA3 hA4 hA5
     go_wp2_with fail
     refine wp_region_held_drew (S := (fun w' => w'.cell? ⟨w.heap.size, 0, none⟩ = some (.int .i64 11) ∧ w'.cell? ⟨w.heap.size, 1, none⟩ = some (.int .i64 d) ∧ w'.cell? ⟨w.heap.size, 2, none⟩ = some (.int .i64 n) ∧ w'.cell? ⟨w.heap.size, 3, none⟩ = some (.int .i64 m) ∧ w'.cell? ⟨w.heap.size, 4, none⟩ = some (.int .i64 imm) ∧ w'.cell? ⟨w.heap.size, 5, none⟩ = some (.int .i64 kind))) (by kernel_rfl) (by (try dsimp only); exact ⟨n0, n1, n2, n3, n4, n5⟩) (fun hHeld => ?_)
     refine tk1 0 189 rfl ?_
     simp only [Act.put, tka, tk0, tkS]
     refine tk1 1 190 rfl ?_
     simp only [Act.put, tka, tk0, tkS]
     refine tk1 2 191 rfl ?_
     simp only [Act.put, tka, tk0, tkS]
     refine tk1 3 192 rfl ?_
     simp only [Act.put, tka, tk0, tkS]
     refine tk1 7 196 rfl ?_
     simp only [Act.put, tka, tk0, tkS]
     refine tk1 8 197 rfl ?_
     simp only [Act.put, tka, tk0, tkS]
     refine tk1 12 201 rfl ?_
     simp only [Act.put, tka, tk0, tkS]
     refine tk1 13 202 rfl ?_
     simp only [Act.put, tka, tk0, tkS]
     refine wpAnyH_ready (rs := [4]) (by kernel_rfl) (by simp) ?_
     refine AllReadyH.cons (o := ⟨some 193, _, _, _, _, _⟩) rfl (fun K hK => ?_) AllReadyH.nil
     go_simp
     go_at_call 37; refine (HRd.out _).mono ?_; rintro e w' ⟨rfl, md, rfl⟩
     refine hK.out _ _ (by (try dsimp only); exact ⟨n0, n1, n2, n3, n4, n5⟩) ?_
     clear hK K hHeld
     intro hHeld
     try simp only [Act.put, tka, tk0, tkS]
     refine tk1 5 194 rfl ?_
     simp only [Act.put, tka, tk0, tkS]
     refine tk1 6 195 rfl ?_
     simp only [Act.put, tka, tk0, tkS]
     refine wpAnyH_ready (rs := [9]) (by kernel_rfl) (by simp) ?_
     refine AllReadyH.cons (o := ⟨some 198, _, _, _, _, _⟩) rfl (fun K hK => ?_) AllReadyH.nil
     go_simp
     go_at_call 37; refine (HRn.out _).mono ?_; rintro e w' ⟨rfl, mn, rfl⟩
     refine hK.out _ _ (by (try dsimp only); exact ⟨n0, n1, n2, n3, n4, n5⟩) ?_
     clear hK K hHeld
     intro hHeld
     try simp only [Act.put, tka, tk0, tkS]
     refine tk1 10 199 rfl ?_
     simp only [Act.put, tka, tk0, tkS]
     refine tk1 11 200 rfl ?_
     simp only [Act.put, tka, tk0, tkS]
     refine wpAnyH_ready (rs := [14]) (by kernel_rfl) (by simp) ?_
     refine AllReadyH.cons (o := ⟨some 203, _, _, _, _, _⟩) rfl (fun K hK => ?_) AllReadyH.nil
     go_simp
     go_at_call 37; refine (HRm.out _).mono ?_; rintro e w' ⟨rfl, mm, rfl⟩
     refine hK.out _ _ (by (try dsimp only); exact ⟨n0, n1, n2, n3, n4, n5⟩) ?_
     clear hK K hHeld
     intro hHeld
     try simp only [Act.put, tka, tk0, tkS]
     refine tk1 15 204 rfl ?_
     simp only [Act.put, tka, tk0, tkS]
     refine tk1 16 2 rfl ?_
     simp only [Act.put, tka, tk0, tkS]
     refine wpAnyH_done (by kernel_rfl) ?_ _
     go_wp2_with fail
     go_ret
     exact ⟨by rw [HX.out]; rfl, by repeat (first | exact HB7.out | refine bd_ ?_ _ | refine Below.drew ?_ | refine bl_ ?_ _)⟩)
  ·first
    | exact absurd hneg (by have q1 := HRB.out; have q2 := HRC.out; unfold b0k at q1; unfold b0d at q2; omega)
    | (
     go_wp2_with fail
     refine (g1l _).mono ?_
     rintro e w7 ⟨rfl, hb⟩
     have HB7 := h_ (bt_ (bd_ HB2.out _) hb)
     have HN7 := h_ ((HN2.out.dn _).below hb)
     have hlt7 := HN7.out.lt
     clear hb n0 n1 n2 n3 n4 n5 hlt HB2 HN2
     obtain ⟨n0, n1, n2, n3, n4, n5⟩ := a0b HN7.out
     obtain ⟨A1, hA1, hcat1⟩ := catx (P := Tryz.prog) [69, 79, 82, 32] (regL d) (x := ({ data := #[69, 79, 82] } ++ { data := #[32] } : ByteArray)) (by kernel_rfl) (y := (ba (regL d))) rfl (by simp; omega)
     obtain ⟨A2, hA2, hcat2⟩ := catx (P := Tryz.prog) A1 [44] (x := (ba A1)) rfl (y := { data := #[44] }) rfl (by rw [hA1]; simp; omega)
     obtain ⟨A3, hA3, hcat3⟩ := catx (P := Tryz.prog) A2 (regL n) (x := (ba A2)) rfl (y := (ba (regL n))) rfl (by rw [hA2]; rw [hA1]; simp; omega)
     obtain ⟨A4, hA4, hcat4⟩ := catx (P := Tryz.prog) A3 [44] (x := (ba A3)) rfl (y := { data := #[44] }) rfl (by rw [hA3]; rw [hA2]; rw [hA1]; simp; omega)
     obtain ⟨A5, hA5, hcat5⟩ := catx (P := Tryz.prog) A4 (regL m) (x := (ba A4)) rfl (y := (ba (regL m))) rfl (by rw [hA4]; rw [hA3]; rw [hA2]; rw [hA1]; simp; omega)
     have HX := h_ (show a0d 12 d n m imm kind = A5 by rw [HP.out, hA5, hA4, hA3, hA2, hA1]; unfold b0g; simp [i0p, c0x])
     clear hA1 hA2 hA3 hA4 hA5
     go_wp2_with fail
     refine wp_region_held_drew (S := (fun w' => w'.cell? ⟨w.heap.size, 0, none⟩ = some (.int .i64 12) ∧ w'.cell? ⟨w.heap.size, 1, none⟩ = some (.int .i64 d) ∧ w'.cell? ⟨w.heap.size, 2, none⟩ = some (.int .i64 n) ∧ w'.cell? ⟨w.heap.size, 3, none⟩ = some (.int .i64 m) ∧ w'.cell? ⟨w.heap.size, 4, none⟩ = some (.int .i64 imm) ∧ w'.cell? ⟨w.heap.size, 5, none⟩ = some (.int .i64 kind))) (by kernel_rfl) (by (try dsimp only); exact ⟨n0, n1, n2, n3, n4, n5⟩) (fun hHeld => ?_)
     refine tk1 0 189 rfl ?_
     simp only [Act.put, tka, tk0, tkS]
     refine tk1 1 190 rfl ?_
     simp only [Act.put, tka, tk0, tkS]
     refine tk1 2 191 rfl ?_
     simp only [Act.put, tka, tk0, tkS]
     refine tk1 3 192 rfl ?_
     simp only [Act.put, tka, tk0, tkS]
     refine tk1 7 196 rfl ?_
     simp only [Act.put, tka, tk0, tkS]
     refine tk1 8 197 rfl ?_
     simp only [Act.put, tka, tk0, tkS]
     refine tk1 12 201 rfl ?_
     simp only [Act.put, tka, tk0, tkS]
     refine tk1 13 202 rfl ?_
     simp only [Act.put, tka, tk0, tkS]
     refine wpAnyH_ready (rs := [4]) (by kernel_rfl) (by simp) ?_
     refine AllReadyH.cons (o := ⟨some 193, _, _, _, _, _⟩) rfl (fun K hK => ?_) AllReadyH.nil
     go_simp
     go_at_call 37; refine (HRd.out _).mono ?_; rintro e w' ⟨rfl, md, rfl⟩
     refine hK.out _ _ (by (try dsimp only); exact ⟨n0, n1, n2, n3, n4, n5⟩) ?_
     clear hK K hHeld
     intro hHeld
     try simp only [Act.put, tka, tk0, tkS]
     refine tk1 5 194 rfl ?_
     simp only [Act.put, tka, tk0, tkS]
     refine tk1 6 195 rfl ?_
     simp only [Act.put, tka, tk0, tkS]
     refine wpAnyH_ready (rs := [9]) (by kernel_rfl) (by simp) ?_
     refine AllReadyH.cons (o := ⟨some 198, _, _, _, _, _⟩) rfl (fun K hK => ?_) AllReadyH.nil
     go_simp
     go_at_call 37; refine (HRn.out _).mono ?_; rintro e w' ⟨rfl, mn, rfl⟩
     refine hK.out _ _ (by (try dsimp only); exact ⟨n0, n1, n2, n3, n4, n5⟩) ?_
     clear hK K hHeld
     intro hHeld
     try simp only [Act.put, tka, tk0, tkS]
     refine tk1 10 199 rfl ?_
     simp only [Act.put, tka, tk0, tkS]
     refine tk1 11 200 rfl ?_
     simp only [Act.put, tka, tk0, tkS]
     refine wpAnyH_ready (rs := [14]) (by kernel_rfl) (by simp) ?_
     refine AllReadyH.cons (o := ⟨some 203, _, _, _, _, _⟩) rfl (fun K hK => ?_) AllReadyH.nil
     go_simp
     go_at_call 37; refine (HRm.out _).mono ?_; rintro e w' ⟨rfl, mm, rfl⟩
     refine hK.out _ _ (by (try dsimp only); exact ⟨n0, n1, n2, n3, n4, n5⟩) ?_
     clear hK K hHeld
     intro hHeld
     try simp only [Act.put, tka, tk0, tkS]
     refine tk1 15 204 rfl ?_
     simp only [Act.put, tka, tk0, tkS]
     refine tk1 16 2 rfl ?_
     simp only [Act.put, tka, tk0, tkS]
     refine wpAnyH_done (by kernel_rfl) ?_ _
     go_wp2_with fail
     go_ret
     exact ⟨by rw [HX.out]; rfl, by repeat (first | exact HB7.out | refine bd_ ?_ _ | refine Below.drew ?_ | refine bl_ ?_ _)⟩)
  ·first
    | exact absurd hneg (by have q1 := HRB.out; have q2 := HRC.out; unfold b0k at q1; unfold b0d at q2; omega)
    | (
     go_wp2_with fail
     refine (g1j _).mono ?_
     rintro e w7 ⟨rfl, hb⟩
     have HB7 := h_ (bt_ (bd_ HB2.out _) hb)
     have HN7 := h_ ((HN2.out.dn _).below hb)
     have hlt7 := HN7.out.lt
     clear hb n0 n1 n2 n3 n4 n5 hlt HB2 HN2
     obtain ⟨n0, n1, n2, n3, n4, n5⟩ := a0b HN7.out
     by_cases h31 : d = 31
     ·subst h31
      obtain ⟨A1, hA1, hcat1⟩ := catx (P := Tryz.prog) [67, 77, 80, 32] (regL n) (x := ({ data := #[67, 77, 80, 32] } : ByteArray)) rfl (y := (ba (regL n))) rfl (by simp; omega)
      obtain ⟨A2, hA2, hcat2⟩ := catx (P := Tryz.prog) A1 [44] (x := (ba A1)) rfl (y := { data := #[44] }) rfl (by rw [hA1]; simp; omega)
      obtain ⟨A3, hA3, hcat3⟩ := catx (P := Tryz.prog) A2 (regL m) (x := (ba A2)) rfl (y := (ba (regL m))) rfl (by rw [hA2]; rw [hA1]; simp; omega)
      have HX := h_ (show a0d 13 31 n m imm kind = A3 by rw [HP.out, hA3, hA2, hA1]; unfold b0g; rfl)
      clear hA1 hA2 hA3
      go_wp2_with fail
      refine wp_region_held_drew (S := (fun w' => w'.cell? ⟨w.heap.size, 0, none⟩ = some (.int .i64 13) ∧ w'.cell? ⟨w.heap.size, 1, none⟩ = some (.int .i64 31) ∧ w'.cell? ⟨w.heap.size, 2, none⟩ = some (.int .i64 n) ∧ w'.cell? ⟨w.heap.size, 3, none⟩ = some (.int .i64 m) ∧ w'.cell? ⟨w.heap.size, 4, none⟩ = some (.int .i64 imm) ∧ w'.cell? ⟨w.heap.size, 5, none⟩ = some (.int .i64 kind))) (by kernel_rfl) (by (try dsimp only); exact ⟨n0, n1, n2, n3, n4, n5⟩) (fun hHeld => ?_)
      refine tk1 0 180 rfl ?_
      simp only [Act.put, tka, tk0, tkS]
      refine tk1 1 181 rfl ?_
      simp only [Act.put, tka, tk0, tkS]
      refine tk1 5 185 rfl ?_
      simp only [Act.put, tka, tk0, tkS]
      refine tk1 6 186 rfl ?_
      simp only [Act.put, tka, tk0, tkS]
      refine wpAnyH_ready (rs := [2]) (by kernel_rfl) (by simp) ?_
      refine AllReadyH.cons (o := ⟨some 182, _, _, _, _, _⟩) rfl (fun K hK => ?_) AllReadyH.nil
      go_simp
      go_at_call 37; refine (HRn.out _).mono ?_; rintro e w' ⟨rfl, mn, rfl⟩
      refine hK.out _ _ (by (try dsimp only); exact ⟨n0, n1, n2, n3, n4, n5⟩) ?_
      clear hK K hHeld
      intro hHeld
      try simp only [Act.put, tka, tk0, tkS]
      refine tk1 3 183 rfl ?_
      simp only [Act.put, tka, tk0, tkS]
      refine tk1 4 184 rfl ?_
      simp only [Act.put, tka, tk0, tkS]
      refine wpAnyH_ready (rs := [7]) (by kernel_rfl) (by simp) ?_
      refine AllReadyH.cons (o := ⟨some 187, _, _, _, _, _⟩) rfl (fun K hK => ?_) AllReadyH.nil
      go_simp
      go_at_call 37; refine (HRm.out _).mono ?_; rintro e w' ⟨rfl, mm, rfl⟩
      refine hK.out _ _ (by (try dsimp only); exact ⟨n0, n1, n2, n3, n4, n5⟩) ?_
      clear hK K hHeld
      intro hHeld
      try simp only [Act.put, tka, tk0, tkS]
      refine tk1 8 188 rfl ?_
      simp only [Act.put, tka, tk0, tkS]
      refine tk1 9 2 rfl ?_
      simp only [Act.put, tka, tk0, tkS]
      refine wpAnyH_done (by kernel_rfl) ?_ _
      go_wp2_with fail
      go_ret
      exact ⟨by rw [HX.out]; rfl, by repeat (first | exact HB7.out | refine bd_ ?_ _ | refine Below.drew ?_ | refine bl_ ?_ _)⟩
     ·have h31b : (d == 31) = false := beq_eq_false_iff_ne.2 h31
      obtain ⟨A1, hA1, hcat1⟩ := catx (P := Tryz.prog) [83, 85, 66, 83, 32] (regL d) (x := ({ data := #[83, 85, 66, 83] } ++ { data := #[32] } : ByteArray)) (by kernel_rfl) (y := (ba (regL d))) rfl (by simp; omega)
      obtain ⟨A2, hA2, hcat2⟩ := catx (P := Tryz.prog) A1 [44] (x := (ba A1)) rfl (y := { data := #[44] }) rfl (by rw [hA1]; simp; omega)
      obtain ⟨A3, hA3, hcat3⟩ := catx (P := Tryz.prog) A2 (regL n) (x := (ba A2)) rfl (y := (ba (regL n))) rfl (by rw [hA2]; rw [hA1]; simp; omega)
      obtain ⟨A4, hA4, hcat4⟩ := catx (P := Tryz.prog) A3 [44] (x := (ba A3)) rfl (y := { data := #[44] }) rfl (by rw [hA3]; rw [hA2]; rw [hA1]; simp; omega)
      obtain ⟨A5, hA5, hcat5⟩ := catx (P := Tryz.prog) A4 (regL m) (x := (ba A4)) rfl (y := (ba (regL m))) rfl (by rw [hA4]; rw [hA3]; rw [hA2]; rw [hA1]; simp; omega)
      have HX := h_ (show a0d 13 d n m imm kind = A5 by rw [HP.out, hA5, hA4, hA3, hA2, hA1]; unfold b0g; simp [i0p, c0x, h31])
      clear hA1 hA2 hA3 hA4 hA5
      go_wp2_with fail
      refine wp_region_held_drew (S := (fun w' => w'.cell? ⟨w.heap.size, 0, none⟩ = some (.int .i64 13) ∧ w'.cell? ⟨w.heap.size, 1, none⟩ = some (.int .i64 d) ∧ w'.cell? ⟨w.heap.size, 2, none⟩ = some (.int .i64 n) ∧ w'.cell? ⟨w.heap.size, 3, none⟩ = some (.int .i64 m) ∧ w'.cell? ⟨w.heap.size, 4, none⟩ = some (.int .i64 imm) ∧ w'.cell? ⟨w.heap.size, 5, none⟩ = some (.int .i64 kind))) (by kernel_rfl) (by (try dsimp only); exact ⟨n0, n1, n2, n3, n4, n5⟩) (fun hHeld => ?_)
      refine tk1 0 189 rfl ?_
      simp only [Act.put, tka, tk0, tkS]
      refine tk1 1 190 rfl ?_
      simp only [Act.put, tka, tk0, tkS]
      refine tk1 2 191 rfl ?_
      simp only [Act.put, tka, tk0, tkS]
      refine tk1 3 192 rfl ?_
      simp only [Act.put, tka, tk0, tkS]
      refine tk1 7 196 rfl ?_
      simp only [Act.put, tka, tk0, tkS]
      refine tk1 8 197 rfl ?_
      simp only [Act.put, tka, tk0, tkS]
      refine tk1 12 201 rfl ?_
      simp only [Act.put, tka, tk0, tkS]
      refine tk1 13 202 rfl ?_
      simp only [Act.put, tka, tk0, tkS]
      refine wpAnyH_ready (rs := [4]) (by kernel_rfl) (by simp) ?_
      refine AllReadyH.cons (o := ⟨some 193, _, _, _, _, _⟩) rfl (fun K hK => ?_) AllReadyH.nil
      go_simp
      go_at_call 37; refine (HRd.out _).mono ?_; rintro e w' ⟨rfl, md, rfl⟩
      refine hK.out _ _ (by (try dsimp only); exact ⟨n0, n1, n2, n3, n4, n5⟩) ?_
      clear hK K hHeld
      intro hHeld
      try simp only [Act.put, tka, tk0, tkS]
      refine tk1 5 194 rfl ?_
      simp only [Act.put, tka, tk0, tkS]
      refine tk1 6 195 rfl ?_
      simp only [Act.put, tka, tk0, tkS]
      refine wpAnyH_ready (rs := [9]) (by kernel_rfl) (by simp) ?_
      refine AllReadyH.cons (o := ⟨some 198, _, _, _, _, _⟩) rfl (fun K hK => ?_) AllReadyH.nil
      go_simp
      go_at_call 37; refine (HRn.out _).mono ?_; rintro e w' ⟨rfl, mn, rfl⟩
      refine hK.out _ _ (by (try dsimp only); exact ⟨n0, n1, n2, n3, n4, n5⟩) ?_
      clear hK K hHeld
      intro hHeld
      try simp only [Act.put, tka, tk0, tkS]
      refine tk1 10 199 rfl ?_
      simp only [Act.put, tka, tk0, tkS]
      refine tk1 11 200 rfl ?_
      simp only [Act.put, tka, tk0, tkS]
      refine wpAnyH_ready (rs := [14]) (by kernel_rfl) (by simp) ?_
      refine AllReadyH.cons (o := ⟨some 203, _, _, _, _, _⟩) rfl (fun K hK => ?_) AllReadyH.nil
      go_simp
      go_at_call 37; refine (HRm.out _).mono ?_; rintro e w' ⟨rfl, mm, rfl⟩
      refine hK.out _ _ (by (try dsimp only); exact ⟨n0, n1, n2, n3, n4, n5⟩) ?_
      clear hK K hHeld
      intro hHeld
      try simp only [Act.put, tka, tk0, tkS]
      refine tk1 15 204 rfl ?_
      simp only [Act.put, tka, tk0, tkS]
      refine tk1 16 2 rfl ?_
      simp only [Act.put, tka, tk0, tkS]
      refine wpAnyH_done (by kernel_rfl) ?_ _
      go_wp2_with fail
      go_ret
      exact ⟨by rw [HX.out]; rfl, by repeat (first | exact HB7.out | refine bd_ ?_ _ | refine Below.drew ?_ | refine bl_ ?_ _)⟩)
  ·go_wp2_with fail
   refine (g1i _).mono ?_
   rintro e w7 ⟨rfl, hb⟩
   have HB7 := h_ (bt_ (bd_ HB2.out _) hb)
   have HN7 := h_ ((HN2.out.dn _).below hb)
   have hlt7 := HN7.out.lt
   clear hb n0 n1 n2 n3 n4 n5 hlt HB2 HN2
   obtain ⟨n0, n1, n2, n3, n4, n5⟩ := a0b HN7.out
   obtain ⟨A1, hA1, hcat1⟩ := catx (P := Tryz.prog) [66, 32] TG (x := ({ data := #[66] } ++ { data := #[32] } : ByteArray)) (by kernel_rfl) (y := (ba TG)) rfl (by simp; omega)
   have HX := h_ (show a0d 14 d n m imm kind = A1 by rw [HP.out, hA1]; unfold b0g; simp [HTG.out])
   clear hA1
   go_wp2_with fail
   go_ret
   exact ⟨by rw [HX.out]; rfl, by repeat (first | exact HB7.out | refine bd_ ?_ _ | refine Below.drew ?_ | refine bl_ ?_ _)⟩
  ·go_wp2_with fail
   refine (g1h _).mono ?_
   rintro e w7 ⟨rfl, hb⟩
   have HB7 := h_ (bt_ (bd_ HB2.out _) hb)
   have HN7 := h_ ((HN2.out.dn _).below hb)
   have hlt7 := HN7.out.lt
   clear hb n0 n1 n2 n3 n4 n5 hlt HB2 HN2
   obtain ⟨n0, n1, n2, n3, n4, n5⟩ := a0b HN7.out
   obtain ⟨A1, hA1, hcat1⟩ := catx (P := Tryz.prog) [67, 66, 90, 32] (regL d) (x := ({ data := #[67, 66, 90] } ++ { data := #[32] } : ByteArray)) (by kernel_rfl) (y := (ba (regL d))) rfl (by simp; omega)
   obtain ⟨A2, hA2, hcat2⟩ := catx (P := Tryz.prog) A1 [44] (x := (ba A1)) rfl (y := { data := #[44] }) rfl (by rw [hA1]; simp; omega)
   obtain ⟨A3, hA3, hcat3⟩ := catx (P := Tryz.prog) A2 TG (x := (ba A2)) rfl (y := (ba TG)) rfl (by rw [hA2]; rw [hA1]; simp; omega)
   have HX := h_ (show a0d 15 d n m imm kind = A3 by rw [HP.out, hA3, hA2, hA1]; unfold b0g; simp [c0x, HTG.out])
   clear hA1 hA2 hA3
   go_wp2_with fail
   refine (HRd.out _).mono ?_
   rintro e w' ⟨rfl, md, rfl⟩
   go_wp2_with fail
   go_ret
   exact ⟨by rw [HX.out]; rfl, by repeat (first | exact HB7.out | refine bd_ ?_ _ | refine Below.drew ?_ | refine bl_ ?_ _)⟩
  ·go_wp2_with fail
   refine (g1g _).mono ?_
   rintro e w7 ⟨rfl, hb⟩
   have HB7 := h_ (bt_ (bd_ HB2.out _) hb)
   have HN7 := h_ ((HN2.out.dn _).below hb)
   have hlt7 := HN7.out.lt
   clear hb n0 n1 n2 n3 n4 n5 hlt HB2 HN2
   obtain ⟨n0, n1, n2, n3, n4, n5⟩ := a0b HN7.out
   obtain ⟨A1, hA1, hcat1⟩ := catx (P := Tryz.prog) [67, 66, 78, 90, 32] (regL d) (x := ({ data := #[67, 66, 78, 90] } ++ { data := #[32] } : ByteArray)) (by kernel_rfl) (y := (ba (regL d))) rfl (by simp; omega)
   obtain ⟨A2, hA2, hcat2⟩ := catx (P := Tryz.prog) A1 [44] (x := (ba A1)) rfl (y := { data := #[44] }) rfl (by rw [hA1]; simp; omega)
   obtain ⟨A3, hA3, hcat3⟩ := catx (P := Tryz.prog) A2 TG (x := (ba A2)) rfl (y := (ba TG)) rfl (by rw [hA2]; rw [hA1]; simp; omega)
   have HX := h_ (show a0d 16 d n m imm kind = A3 by rw [HP.out, hA3, hA2, hA1]; unfold b0g; simp [c0x, HTG.out])
   clear hA1 hA2 hA3
   go_wp2_with fail
   refine (HRd.out _).mono ?_
   rintro e w' ⟨rfl, md, rfl⟩
   go_wp2_with fail
   go_ret
   exact ⟨by rw [HX.out]; rfl, by repeat (first | exact HB7.out | refine bd_ ?_ _ | refine Below.drew ?_ | refine bl_ ?_ _)⟩
  ·go_wp2_with fail
   refine (g1f _).mono ?_
   rintro e w7 ⟨rfl, hb⟩
   have HB7 := h_ (bt_ (bd_ HB2.out _) hb)
   have HN7 := h_ ((HN2.out.dn _).below hb)
   have hlt7 := HN7.out.lt
   clear hb n0 n1 n2 n3 n4 n5 hlt HB2 HN2
   obtain ⟨n0, n1, n2, n3, n4, n5⟩ := a0b HN7.out
   have hkk : kind = 0 ∨ kind = 1 := by have := HRC.out; unfold b0d at this; omega
   rcases hkk with rfl | rfl
   ·obtain ⟨A1, hA1, hcat1⟩ := catx (P := Tryz.prog) [66, 46, 69, 81, 32] TG (x := ({ data := #[66, 46, 69, 81, 32] } : ByteArray)) rfl (y := (ba TG)) rfl (by simp; omega)
    have HX := h_ (show a0d 17 d n m imm 0 = A1 by rw [HP.out, hA1]; unfold b0g; simp [HTG.out])
    clear hA1
    go_wp2_with fail
    go_ret
    exact ⟨by rw [HX.out]; rfl, by repeat (first | exact HB7.out | refine bd_ ?_ _ | refine Below.drew ?_ | refine bl_ ?_ _)⟩
   ·obtain ⟨A1, hA1, hcat1⟩ := catx (P := Tryz.prog) [66, 46, 78, 69, 32] TG (x := ({ data := #[66, 46, 78, 69, 32] } : ByteArray)) rfl (y := (ba TG)) rfl (by simp; omega)
    have HX := h_ (show a0d 17 d n m imm 1 = A1 by rw [HP.out, hA1]; unfold b0g; simp [HTG.out])
    clear hA1
    go_wp2_with fail
    go_ret
    exact ⟨by rw [HX.out]; rfl, by repeat (first | exact HB7.out | refine bd_ ?_ _ | refine Below.drew ?_ | refine bl_ ?_ _)⟩
  ·first
    | exact absurd hneg (by have q1 := HRB.out; have q2 := HRC.out; unfold b0k at q1; unfold b0d at q2; omega)
    | (
     go_wp2_with fail
     refine (g1e _).mono ?_
     rintro e w7 ⟨rfl, hb⟩
     have HB7 := h_ (bt_ (bd_ HB2.out _) hb)
     have HN7 := h_ ((HN2.out.dn _).below hb)
     have hlt7 := HN7.out.lt
     clear hb n0 n1 n2 n3 n4 n5 hlt HB2 HN2
     obtain ⟨n0, n1, n2, n3, n4, n5⟩ := a0b HN7.out
     have hkk : kind = 9 ∨ kind = 10 ∨ kind = 11 ∨ kind = 13 ∨ kind = 14 ∨ kind = 15 := by have := HRDD.out; unfold c0j at this; omega
     rcases hkk with rfl | rfl | rfl | rfl | rfl | rfl
     ·have HX := h_ (show a0d 18 d n m imm 9 = ([68, 77, 66, 32, 73, 83, 72, 76, 68] : List UInt8) by rw [HP.out]; unfold b0g; simp [barL])
      go_wp2_with fail
      refine (l1d _).mono ?_
      rintro e w8 ⟨rfl, hb⟩
      have HB8 := h_ (bt_ HB7.out hb)
      go_wp2_with fail
      go_ret
      exact ⟨by rw [HX.out]; kernel_rfl, by repeat (first | exact HB8.out | refine bd_ ?_ _ | refine Below.drew ?_ | refine bl_ ?_ _)⟩
     ·have HX := h_ (show a0d 18 d n m imm 10 = ([68, 77, 66, 32, 73, 83, 72, 83, 84] : List UInt8) by rw [HP.out]; unfold b0g; simp [barL])
      go_wp2_with fail
      refine (c1z _).mono ?_
      rintro e w8 ⟨rfl, hb⟩
      have HB8 := h_ (bt_ HB7.out hb)
      go_wp2_with fail
      go_ret
      exact ⟨by rw [HX.out]; kernel_rfl, by repeat (first | exact HB8.out | refine bd_ ?_ _ | refine Below.drew ?_ | refine bl_ ?_ _)⟩
     ·have HX := h_ (show a0d 18 d n m imm 11 = ([68, 77, 66, 32, 73, 83, 72] : List UInt8) by rw [HP.out]; unfold b0g; simp [barL])
      go_wp2_with fail
      refine (c1y _).mono ?_
      rintro e w8 ⟨rfl, hb⟩
      have HB8 := h_ (bt_ HB7.out hb)
      go_wp2_with fail
      go_ret
      exact ⟨by rw [HX.out]; kernel_rfl, by repeat (first | exact HB8.out | refine bd_ ?_ _ | refine Below.drew ?_ | refine bl_ ?_ _)⟩
     ·have HX := h_ (show a0d 18 d n m imm 13 = ([68, 77, 66, 32, 76, 68] : List UInt8) by rw [HP.out]; unfold b0g; simp [barL])
      go_wp2_with fail
      refine (c1x _).mono ?_
      rintro e w8 ⟨rfl, hb⟩
      have HB8 := h_ (bt_ HB7.out hb)
      go_wp2_with fail
      go_ret
      exact ⟨by rw [HX.out]; kernel_rfl, by repeat (first | exact HB8.out | refine bd_ ?_ _ | refine Below.drew ?_ | refine bl_ ?_ _)⟩
     ·have HX := h_ (show a0d 18 d n m imm 14 = ([68, 77, 66, 32, 83, 84] : List UInt8) by rw [HP.out]; unfold b0g; simp [barL])
      go_wp2_with fail
      refine (c1w _).mono ?_
      rintro e w8 ⟨rfl, hb⟩
      have HB8 := h_ (bt_ HB7.out hb)
      go_wp2_with fail
      go_ret
      exact ⟨by rw [HX.out]; kernel_rfl, by repeat (first | exact HB8.out | refine bd_ ?_ _ | refine Below.drew ?_ | refine bl_ ?_ _)⟩
     ·have HX := h_ (show a0d 18 d n m imm 15 = ([68, 77, 66, 32, 83, 89] : List UInt8) by rw [HP.out]; unfold b0g; simp [barL])
      go_wp2_with fail
      refine (c1v _).mono ?_
      rintro e w8 ⟨rfl, hb⟩
      have HB8 := h_ (bt_ HB7.out hb)
      go_wp2_with fail
      go_ret
      exact ⟨by rw [HX.out]; kernel_rfl, by repeat (first | exact HB8.out | refine bd_ ?_ _ | refine Below.drew ?_ | refine bl_ ?_ _)⟩)
  ·first
    | exact absurd hneg (by have q1 := HRB.out; have q2 := HRC.out; unfold b0k at q1; unfold b0d at q2; omega)
    | (
     go_wp2_with fail
     refine (g1d _).mono ?_
     rintro e w7 ⟨rfl, hb⟩
     have HB7 := h_ (bt_ (bd_ HB2.out _) hb)
     have HN7 := h_ ((HN2.out.dn _).below hb)
     have hlt7 := HN7.out.lt
     clear hb n0 n1 n2 n3 n4 n5 hlt HB2 HN2
     obtain ⟨n0, n1, n2, n3, n4, n5⟩ := a0b HN7.out
     have hkk : kind = 9 ∨ kind = 10 ∨ kind = 11 ∨ kind = 13 ∨ kind = 14 ∨ kind = 15 := by have := HRDD.out; unfold c0j at this; omega
     rcases hkk with rfl | rfl | rfl | rfl | rfl | rfl
     ·have HX := h_ (show a0d 19 d n m imm 9 = ([68, 83, 66, 32, 73, 83, 72, 76, 68] : List UInt8) by rw [HP.out]; unfold b0g; simp [barL])
      go_wp2_with fail
      refine (l1d _).mono ?_
      rintro e w8 ⟨rfl, hb⟩
      have HB8 := h_ (bt_ HB7.out hb)
      go_wp2_with fail
      go_ret
      exact ⟨by rw [HX.out]; kernel_rfl, by repeat (first | exact HB8.out | refine bd_ ?_ _ | refine Below.drew ?_ | refine bl_ ?_ _)⟩
     ·have HX := h_ (show a0d 19 d n m imm 10 = ([68, 83, 66, 32, 73, 83, 72, 83, 84] : List UInt8) by rw [HP.out]; unfold b0g; simp [barL])
      go_wp2_with fail
      refine (c1z _).mono ?_
      rintro e w8 ⟨rfl, hb⟩
      have HB8 := h_ (bt_ HB7.out hb)
      go_wp2_with fail
      go_ret
      exact ⟨by rw [HX.out]; kernel_rfl, by repeat (first | exact HB8.out | refine bd_ ?_ _ | refine Below.drew ?_ | refine bl_ ?_ _)⟩
     ·have HX := h_ (show a0d 19 d n m imm 11 = ([68, 83, 66, 32, 73, 83, 72] : List UInt8) by rw [HP.out]; unfold b0g; simp [barL])
      go_wp2_with fail
      refine (c1y _).mono ?_
      rintro e w8 ⟨rfl, hb⟩
      have HB8 := h_ (bt_ HB7.out hb)
      go_wp2_with fail
      go_ret
      exact ⟨by rw [HX.out]; kernel_rfl, by repeat (first | exact HB8.out | refine bd_ ?_ _ | refine Below.drew ?_ | refine bl_ ?_ _)⟩
     ·have HX := h_ (show a0d 19 d n m imm 13 = ([68, 83, 66, 32, 76, 68] : List UInt8) by rw [HP.out]; unfold b0g; simp [barL])
      go_wp2_with fail
      refine (c1x _).mono ?_
      rintro e w8 ⟨rfl, hb⟩
      have HB8 := h_ (bt_ HB7.out hb)
      go_wp2_with fail
      go_ret
      exact ⟨by rw [HX.out]; kernel_rfl, by repeat (first | exact HB8.out | refine bd_ ?_ _ | refine Below.drew ?_ | refine bl_ ?_ _)⟩
     ·have HX := h_ (show a0d 19 d n m imm 14 = ([68, 83, 66, 32, 83, 84] : List UInt8) by rw [HP.out]; unfold b0g; simp [barL])
      go_wp2_with fail
      refine (c1w _).mono ?_
      rintro e w8 ⟨rfl, hb⟩
      have HB8 := h_ (bt_ HB7.out hb)
      go_wp2_with fail
      go_ret
      exact ⟨by rw [HX.out]; kernel_rfl, by repeat (first | exact HB8.out | refine bd_ ?_ _ | refine Below.drew ?_ | refine bl_ ?_ _)⟩
     ·have HX := h_ (show a0d 19 d n m imm 15 = ([68, 83, 66, 32, 83, 89] : List UInt8) by rw [HP.out]; unfold b0g; simp [barL])
      go_wp2_with fail
      refine (c1v _).mono ?_
      rintro e w8 ⟨rfl, hb⟩
      have HB8 := h_ (bt_ HB7.out hb)
      go_wp2_with fail
      go_ret
      exact ⟨by rw [HX.out]; kernel_rfl, by repeat (first | exact HB8.out | refine bd_ ?_ _ | refine Below.drew ?_ | refine bl_ ?_ _)⟩)
  ·first
    | exact absurd hneg (by have q1 := HRB.out; have q2 := HRC.out; unfold b0k at q1; unfold b0d at q2; omega)
    | (
     go_wp2_with fail
     refine (g1c _).mono ?_
     rintro e w7 ⟨rfl, hb⟩
     have HB7 := h_ (bt_ (bd_ HB2.out _) hb)
     have HN7 := h_ ((HN2.out.dn _).below hb)
     have hlt7 := HN7.out.lt
     clear hb n0 n1 n2 n3 n4 n5 hlt HB2 HN2
     obtain ⟨n0, n1, n2, n3, n4, n5⟩ := a0b HN7.out
     have HX := h_ (show a0d 20 d n m imm kind = ([73, 83, 66] : List UInt8) by rw [HP.out]; unfold b0g; simp [c0x])
     go_wp2_with fail
     go_ret
     exact ⟨by rw [HX.out]; rfl, by repeat (first | exact HB7.out | refine bd_ ?_ _ | refine Below.drew ?_ | refine bl_ ?_ _)⟩)
  ·first
    | exact absurd hneg (by have q1 := HRB.out; have q2 := HRC.out; unfold b0k at q1; unfold b0d at q2; omega)
    | (
     go_wp2_with fail
     refine (g1b _).mono ?_
     rintro e w7 ⟨rfl, hb⟩
     have HB7 := h_ (bt_ (bd_ HB2.out _) hb)
     have HN7 := h_ ((HN2.out.dn _).below hb)
     have hlt7 := HN7.out.lt
     clear hb n0 n1 n2 n3 n4 n5 hlt HB2 HN2
     obtain ⟨n0, n1, n2, n3, n4, n5⟩ := a0b HN7.out
     have hkk : kind = 0 ∨ kind = 1 ∨ kind = 2 ∨ kind = 3 ∨ kind = 4 ∨ kind = 5 ∨ kind = 6 ∨ kind = 7 := by have := HRDD.out; unfold c0j at this; omega
     rcases hkk with rfl | rfl | rfl | rfl | rfl | rfl | rfl | rfl
     ·have HX := h_ (show a0d 21 d n m imm 0 = ([84, 76, 66, 73, 32, 86, 77, 65, 76, 76, 69, 49, 73, 83] : List UInt8) by rw [HP.out]; unfold b0g; simp [e0p])
      go_wp2_with fail
      refine (h1m _).mono ?_
      rintro e w8 ⟨rfl, hb⟩
      have HB8 := h_ (bt_ HB7.out hb)
      have HN8 := h_ (HN7.out.below hb)
      clear hb n0 n1 n2 n3 n4 n5
      obtain ⟨n0, n1, n2, n3, n4, n5⟩ := a0b HN8.out
      have hlt8 := HN8.out.lt
      go_wp2_with fail
      go_ret
      exact ⟨by rw [HX.out]; kernel_rfl, by repeat (first | exact HB8.out | refine bd_ ?_ _ | refine Below.drew ?_ | refine bl_ ?_ _)⟩
     ·obtain ⟨A1, hA1, hcat1⟩ := catx (P := Tryz.prog) [84, 76, 66, 73, 32, 86, 65, 69, 49, 73, 83, 44] (regL d) (x := ({ data := #[84, 76, 66, 73] } ++ { data := #[32] } ++ { data := #[86, 65, 69, 49, 73, 83] } ++ { data := #[44] } : ByteArray)) (by kernel_rfl) (y := (ba (regL d))) rfl (by simp; omega)
      have HX := h_ (show a0d 21 d n m imm 1 = A1 by rw [HP.out, hA1]; unfold b0g; simp [e0p])
      clear hA1
      go_wp2_with fail
      refine (h1l _).mono ?_
      rintro e w8 ⟨rfl, hb⟩
      have HB8 := h_ (bt_ HB7.out hb)
      have HN8 := h_ (HN7.out.below hb)
      clear hb n0 n1 n2 n3 n4 n5
      obtain ⟨n0, n1, n2, n3, n4, n5⟩ := a0b HN8.out
      have hlt8 := HN8.out.lt
      go_wp2_with fail
      refine (HRd.out _).mono ?_
      rintro e w' ⟨rfl, md, rfl⟩
      go_wp2_with fail
      go_ret
      exact ⟨by rw [HX.out]; rfl, by repeat (first | exact HB8.out | refine bd_ ?_ _ | refine Below.drew ?_ | refine bl_ ?_ _)⟩
     ·obtain ⟨A1, hA1, hcat1⟩ := catx (P := Tryz.prog) [84, 76, 66, 73, 32, 86, 65, 65, 69, 49, 73, 83, 44] (regL d) (x := ({ data := #[84, 76, 66, 73] } ++ { data := #[32] } ++ { data := #[86, 65, 65, 69, 49, 73, 83] } ++ { data := #[44] } : ByteArray)) (by kernel_rfl) (y := (ba (regL d))) rfl (by simp; omega)
      have HX := h_ (show a0d 21 d n m imm 2 = A1 by rw [HP.out, hA1]; unfold b0g; simp [e0p])
      clear hA1
      go_wp2_with fail
      refine (h1k _).mono ?_
      rintro e w8 ⟨rfl, hb⟩
      have HB8 := h_ (bt_ HB7.out hb)
      have HN8 := h_ (HN7.out.below hb)
      clear hb n0 n1 n2 n3 n4 n5
      obtain ⟨n0, n1, n2, n3, n4, n5⟩ := a0b HN8.out
      have hlt8 := HN8.out.lt
      go_wp2_with fail
      refine (HRd.out _).mono ?_
      rintro e w' ⟨rfl, md, rfl⟩
      go_wp2_with fail
      go_ret
      exact ⟨by rw [HX.out]; rfl, by repeat (first | exact HB8.out | refine bd_ ?_ _ | refine Below.drew ?_ | refine bl_ ?_ _)⟩
     ·obtain ⟨A1, hA1, hcat1⟩ := catx (P := Tryz.prog) [84, 76, 66, 73, 32, 65, 83, 73, 68, 69, 49, 73, 83, 44] (regL d) (x := ({ data := #[84, 76, 66, 73] } ++ { data := #[32] } ++ { data := #[65, 83, 73, 68, 69, 49, 73, 83] } ++ { data := #[44] } : ByteArray)) (by kernel_rfl) (y := (ba (regL d))) rfl (by simp; omega)
      have HX := h_ (show a0d 21 d n m imm 3 = A1 by rw [HP.out, hA1]; unfold b0g; simp [e0p])
      clear hA1
      go_wp2_with fail
      refine (h1j _).mono ?_
      rintro e w8 ⟨rfl, hb⟩
      have HB8 := h_ (bt_ HB7.out hb)
      have HN8 := h_ (HN7.out.below hb)
      clear hb n0 n1 n2 n3 n4 n5
      obtain ⟨n0, n1, n2, n3, n4, n5⟩ := a0b HN8.out
      have hlt8 := HN8.out.lt
      go_wp2_with fail
      refine (HRd.out _).mono ?_
      rintro e w' ⟨rfl, md, rfl⟩
      go_wp2_with fail
      go_ret
      exact ⟨by rw [HX.out]; rfl, by repeat (first | exact HB8.out | refine bd_ ?_ _ | refine Below.drew ?_ | refine bl_ ?_ _)⟩
     ·have HX := h_ (show a0d 21 d n m imm 4 = ([84, 76, 66, 73, 32, 86, 77, 65, 76, 76, 69, 49] : List UInt8) by rw [HP.out]; unfold b0g; simp [e0p])
      go_wp2_with fail
      refine (h1h _).mono ?_
      rintro e w8 ⟨rfl, hb⟩
      have HB8 := h_ (bt_ HB7.out hb)
      have HN8 := h_ (HN7.out.below hb)
      clear hb n0 n1 n2 n3 n4 n5
      obtain ⟨n0, n1, n2, n3, n4, n5⟩ := a0b HN8.out
      have hlt8 := HN8.out.lt
      go_wp2_with fail
      go_ret
      exact ⟨by rw [HX.out]; kernel_rfl, by repeat (first | exact HB8.out | refine bd_ ?_ _ | refine Below.drew ?_ | refine bl_ ?_ _)⟩
     ·obtain ⟨A1, hA1, hcat1⟩ := catx (P := Tryz.prog) [84, 76, 66, 73, 32, 86, 65, 69, 49, 44] (regL d) (x := ({ data := #[84, 76, 66, 73] } ++ { data := #[32] } ++ { data := #[86, 65, 69, 49] } ++ { data := #[44] } : ByteArray)) (by kernel_rfl) (y := (ba (regL d))) rfl (by simp; omega)
      have HX := h_ (show a0d 21 d n m imm 5 = A1 by rw [HP.out, hA1]; unfold b0g; simp [e0p])
      clear hA1
      go_wp2_with fail
      refine (h1g _).mono ?_
      rintro e w8 ⟨rfl, hb⟩
      have HB8 := h_ (bt_ HB7.out hb)
      have HN8 := h_ (HN7.out.below hb)
      clear hb n0 n1 n2 n3 n4 n5
      obtain ⟨n0, n1, n2, n3, n4, n5⟩ := a0b HN8.out
      have hlt8 := HN8.out.lt
      go_wp2_with fail
      refine (HRd.out _).mono ?_
      rintro e w' ⟨rfl, md, rfl⟩
      go_wp2_with fail
      go_ret
      exact ⟨by rw [HX.out]; rfl, by repeat (first | exact HB8.out | refine bd_ ?_ _ | refine Below.drew ?_ | refine bl_ ?_ _)⟩
     ·obtain ⟨A1, hA1, hcat1⟩ := catx (P := Tryz.prog) [84, 76, 66, 73, 32, 86, 65, 65, 69, 49, 44] (regL d) (x := ({ data := #[84, 76, 66, 73] } ++ { data := #[32] } ++ { data := #[86, 65, 65, 69, 49] } ++ { data := #[44] } : ByteArray)) (by kernel_rfl) (y := (ba (regL d))) rfl (by simp; omega)
      have HX := h_ (show a0d 21 d n m imm 6 = A1 by rw [HP.out, hA1]; unfold b0g; simp [e0p])
      clear hA1
      go_wp2_with fail
      refine (h1f _).mono ?_
      rintro e w8 ⟨rfl, hb⟩
      have HB8 := h_ (bt_ HB7.out hb)
      have HN8 := h_ (HN7.out.below hb)
      clear hb n0 n1 n2 n3 n4 n5
      obtain ⟨n0, n1, n2, n3, n4, n5⟩ := a0b HN8.out
      have hlt8 := HN8.out.lt
      go_wp2_with fail
      refine (HRd.out _).mono ?_
      rintro e w' ⟨rfl, md, rfl⟩
      go_wp2_with fail
      go_ret
      exact ⟨by rw [HX.out]; rfl, by repeat (first | exact HB8.out | refine bd_ ?_ _ | refine Below.drew ?_ | refine bl_ ?_ _)⟩
     ·obtain ⟨A1, hA1, hcat1⟩ := catx (P := Tryz.prog) [84, 76, 66, 73, 32, 65, 83, 73, 68, 69, 49, 44] (regL d) (x := ({ data := #[84, 76, 66, 73] } ++ { data := #[32] } ++ { data := #[65, 83, 73, 68, 69, 49] } ++ { data := #[44] } : ByteArray)) (by kernel_rfl) (y := (ba (regL d))) rfl (by simp; omega)
      have HX := h_ (show a0d 21 d n m imm 7 = A1 by rw [HP.out, hA1]; unfold b0g; simp [e0p])
      clear hA1
      go_wp2_with fail
      refine (h1e _).mono ?_
      rintro e w8 ⟨rfl, hb⟩
      have HB8 := h_ (bt_ HB7.out hb)
      have HN8 := h_ (HN7.out.below hb)
      clear hb n0 n1 n2 n3 n4 n5
      obtain ⟨n0, n1, n2, n3, n4, n5⟩ := a0b HN8.out
      have hlt8 := HN8.out.lt
      go_wp2_with fail
      refine (HRd.out _).mono ?_
      rintro e w' ⟨rfl, md, rfl⟩
      go_wp2_with fail
      go_ret
      exact ⟨by rw [HX.out]; rfl, by repeat (first | exact HB8.out | refine bd_ ?_ _ | refine Below.drew ?_ | refine bl_ ?_ _)⟩)
  ·first
    | exact absurd hneg (by have q1 := HRB.out; have q2 := HRC.out; unfold b0k at q1; unfold b0d at q2; omega)
    | (
     go_wp2_with fail
     refine (g1a _).mono ?_
     rintro e w7 ⟨rfl, hb⟩
     have HB7 := h_ (bt_ (bd_ HB2.out _) hb)
     have HN7 := h_ ((HN2.out.dn _).below hb)
     have hlt7 := HN7.out.lt
     clear hb n0 n1 n2 n3 n4 n5 hlt HB2 HN2
     obtain ⟨n0, n1, n2, n3, n4, n5⟩ := a0b HN7.out
     have HX := h_ (show a0d 22 d n m imm kind = ([69, 82, 69, 84] : List UInt8) by rw [HP.out]; unfold b0g; simp [c0x])
     go_wp2_with fail
     go_ret
     exact ⟨by rw [HX.out]; rfl, by repeat (first | exact HB7.out | refine bd_ ?_ _ | refine Below.drew ?_ | refine bl_ ?_ _)⟩)
  ·first
    | exact absurd hneg (by have q1 := HRB.out; have q2 := HRC.out; unfold b0k at q1; unfold b0d at q2; omega)
    | (
     go_wp2_with fail
     refine (f1z _).mono ?_
     rintro e w7 ⟨rfl, hb⟩
     have HB7 := h_ (bt_ (bd_ HB2.out _) hb)
     have HN7 := h_ ((HN2.out.dn _).below hb)
     have hlt7 := HN7.out.lt
     clear hb n0 n1 n2 n3 n4 n5 hlt HB2 HN2
     obtain ⟨n0, n1, n2, n3, n4, n5⟩ := a0b HN7.out
     have hkk : kind = 0 ∨ kind = 1 ∨ kind = 2 := by have := HRDD.out; unfold c0j at this; omega
     rcases hkk with rfl | rfl | rfl
     ·obtain ⟨A1, hA1, hcat1⟩ := catx (P := Tryz.prog) [77, 82, 83, 32] (regL d) (x := ({ data := #[77, 82, 83] } ++ { data := #[32] } : ByteArray)) (by kernel_rfl) (y := (ba (regL d))) rfl (by simp; omega)
      obtain ⟨A2, hA2, hcat2⟩ := catx (P := Tryz.prog) A1 [44] (x := (ba A1)) rfl (y := { data := #[44] }) rfl (by rw [hA1]; simp; omega)
      obtain ⟨A3, hA3, hcat3⟩ := catx (P := Tryz.prog) A2 [69, 83, 82, 95, 69, 76, 49] (x := (ba A2)) rfl (y := { data := #[69, 83, 82, 95, 69, 76, 49] }) rfl (by rw [hA2]; rw [hA1]; simp; omega)
      have HX := h_ (show a0d 23 d n m imm 0 = A3 by rw [HP.out, hA3, hA2, hA1]; unfold b0g; simp [sysL])
      clear hA1 hA2 hA3
      go_wp2_with fail
      have HNL := h_ (show Blk (w7.alloc (.cells #[.string { data := #[69, 83, 82, 95, 69, 76, 49] }, .string { data := #[70, 65, 82, 95, 69, 76, 49] }, .string { data := #[69, 76, 82, 95, 69, 76, 49] }] 9)) 9 w7.heap.size [.string { data := #[69, 83, 82, 95, 69, 76, 49] }, .string { data := #[70, 65, 82, 95, 69, 76, 49] }, .string { data := #[69, 76, 82, 95, 69, 76, 49] }] from Blk.new _ _ _)
      have HN8 := h_ (HN7.out.below (bl_ (Below.refl w7.heap.size w7) (.cells #[.string { data := #[69, 83, 82, 95, 69, 76, 49] }, .string { data := #[70, 65, 82, 95, 69, 76, 49] }, .string { data := #[69, 76, 82, 95, 69, 76, 49] }] 9)))
      clear n0 n1 n2 n3 n4 n5
      obtain ⟨n0, n1, n2, n3, n4, n5⟩ := a0b HN8.out
      have n6 : (w7.alloc (.cells #[.string { data := #[69, 83, 82, 95, 69, 76, 49] }, .string { data := #[70, 65, 82, 95, 69, 76, 49] }, .string { data := #[69, 76, 82, 95, 69, 76, 49] }] 9)).cell? ⟨w7.heap.size, 0, none⟩ = some (.string { data := #[69, 83, 82, 95, 69, 76, 49] }) := HNL.out.cell 0
      refine wp_region_held_drew (S := (fun w' => w'.cell? ⟨w.heap.size, 0, none⟩ = some (.int .i64 23) ∧ w'.cell? ⟨w.heap.size, 1, none⟩ = some (.int .i64 d) ∧ w'.cell? ⟨w.heap.size, 2, none⟩ = some (.int .i64 n) ∧ w'.cell? ⟨w.heap.size, 3, none⟩ = some (.int .i64 m) ∧ w'.cell? ⟨w.heap.size, 4, none⟩ = some (.int .i64 imm) ∧ w'.cell? ⟨w.heap.size, 5, none⟩ = some (.int .i64 0) ∧ w'.cell? ⟨w7.heap.size, 0, none⟩ = some (.string { data := #[69, 83, 82, 95, 69, 76, 49] }))) (by kernel_rfl) (by (try dsimp only); exact ⟨n0, n1, n2, n3, n4, n5, n6⟩) (fun hHeld => ?_)
      refine tk1 0 159 rfl ?_
      simp only [Act.put, tka, tk0, tkS]
      refine tk1 1 160 rfl ?_
      simp only [Act.put, tka, tk0, tkS]
      refine tk1 2 161 rfl ?_
      simp only [Act.put, tka, tk0, tkS]
      refine tk1 3 162 rfl ?_
      simp only [Act.put, tka, tk0, tkS]
      refine tk1 7 166 rfl ?_
      simp only [Act.put, tka, tk0, tkS]
      refine tk1 8 167 rfl ?_
      simp only [Act.put, tka, tk0, tkS]
      refine tk1 9 168 rfl ?_
      simp only [Act.put, tka, tk0, tkS]
      refine tk1 10 169 rfl ?_
      simp only [Act.put, tka, tk0, tkS]
      refine tk1 11 170 rfl ?_
      simp only [Act.put, tka, tk0, tkS]
      refine wpAnyH_ready (rs := [4]) (by kernel_rfl) (by simp) ?_
      refine AllReadyH.cons (o := ⟨some 163, _, _, _, _, _⟩) rfl (fun K hK => ?_) AllReadyH.nil
      go_simp
      go_at_call 37; refine (HRd.out _).mono ?_; rintro e w' ⟨rfl, md, rfl⟩
      refine hK.out _ _ (by (try dsimp only); exact ⟨n0, n1, n2, n3, n4, n5, n6⟩) ?_
      clear hK K hHeld
      intro hHeld
      try simp only [Act.put, tka, tk0, tkS]
      refine tk1 5 164 rfl ?_
      simp only [Act.put, tka, tk0, tkS]
      refine tk1 6 165 rfl ?_
      simp only [Act.put, tka, tk0, tkS]
      refine tk1 12 171 rfl ?_
      simp only [Act.put, tka, tk0, tkS]
      refine tk1 13 2 rfl ?_
      simp only [Act.put, tka, tk0, tkS]
      refine wpAnyH_done (by kernel_rfl) ?_ _
      go_wp2_with fail
      go_ret
      exact ⟨by rw [HX.out]; rfl, by repeat (first | exact HB7.out | refine bd_ ?_ _ | refine Below.drew ?_ | refine bl_ ?_ _)⟩
     ·obtain ⟨A1, hA1, hcat1⟩ := catx (P := Tryz.prog) [77, 82, 83, 32] (regL d) (x := ({ data := #[77, 82, 83] } ++ { data := #[32] } : ByteArray)) (by kernel_rfl) (y := (ba (regL d))) rfl (by simp; omega)
      obtain ⟨A2, hA2, hcat2⟩ := catx (P := Tryz.prog) A1 [44] (x := (ba A1)) rfl (y := { data := #[44] }) rfl (by rw [hA1]; simp; omega)
      obtain ⟨A3, hA3, hcat3⟩ := catx (P := Tryz.prog) A2 [70, 65, 82, 95, 69, 76, 49] (x := (ba A2)) rfl (y := { data := #[70, 65, 82, 95, 69, 76, 49] }) rfl (by rw [hA2]; rw [hA1]; simp; omega)
      have HX := h_ (show a0d 23 d n m imm 1 = A3 by rw [HP.out, hA3, hA2, hA1]; unfold b0g; simp [sysL])
      clear hA1 hA2 hA3
      go_wp2_with fail
      have HNL := h_ (show Blk (w7.alloc (.cells #[.string { data := #[69, 83, 82, 95, 69, 76, 49] }, .string { data := #[70, 65, 82, 95, 69, 76, 49] }, .string { data := #[69, 76, 82, 95, 69, 76, 49] }] 9)) 9 w7.heap.size [.string { data := #[69, 83, 82, 95, 69, 76, 49] }, .string { data := #[70, 65, 82, 95, 69, 76, 49] }, .string { data := #[69, 76, 82, 95, 69, 76, 49] }] from Blk.new _ _ _)
      have HN8 := h_ (HN7.out.below (bl_ (Below.refl w7.heap.size w7) (.cells #[.string { data := #[69, 83, 82, 95, 69, 76, 49] }, .string { data := #[70, 65, 82, 95, 69, 76, 49] }, .string { data := #[69, 76, 82, 95, 69, 76, 49] }] 9)))
      clear n0 n1 n2 n3 n4 n5
      obtain ⟨n0, n1, n2, n3, n4, n5⟩ := a0b HN8.out
      have n6 : (w7.alloc (.cells #[.string { data := #[69, 83, 82, 95, 69, 76, 49] }, .string { data := #[70, 65, 82, 95, 69, 76, 49] }, .string { data := #[69, 76, 82, 95, 69, 76, 49] }] 9)).cell? ⟨w7.heap.size, 1, none⟩ = some (.string { data := #[70, 65, 82, 95, 69, 76, 49] }) := HNL.out.cell 1
      refine wp_region_held_drew (S := (fun w' => w'.cell? ⟨w.heap.size, 0, none⟩ = some (.int .i64 23) ∧ w'.cell? ⟨w.heap.size, 1, none⟩ = some (.int .i64 d) ∧ w'.cell? ⟨w.heap.size, 2, none⟩ = some (.int .i64 n) ∧ w'.cell? ⟨w.heap.size, 3, none⟩ = some (.int .i64 m) ∧ w'.cell? ⟨w.heap.size, 4, none⟩ = some (.int .i64 imm) ∧ w'.cell? ⟨w.heap.size, 5, none⟩ = some (.int .i64 1) ∧ w'.cell? ⟨w7.heap.size, 1, none⟩ = some (.string { data := #[70, 65, 82, 95, 69, 76, 49] }))) (by kernel_rfl) (by (try dsimp only); exact ⟨n0, n1, n2, n3, n4, n5, n6⟩) (fun hHeld => ?_)
      refine tk1 0 159 rfl ?_
      simp only [Act.put, tka, tk0, tkS]
      refine tk1 1 160 rfl ?_
      simp only [Act.put, tka, tk0, tkS]
      refine tk1 2 161 rfl ?_
      simp only [Act.put, tka, tk0, tkS]
      refine tk1 3 162 rfl ?_
      simp only [Act.put, tka, tk0, tkS]
      refine tk1 7 166 rfl ?_
      simp only [Act.put, tka, tk0, tkS]
      refine tk1 8 167 rfl ?_
      simp only [Act.put, tka, tk0, tkS]
      refine tk1 9 168 rfl ?_
      simp only [Act.put, tka, tk0, tkS]
      refine tk1 10 169 rfl ?_
      simp only [Act.put, tka, tk0, tkS]
      refine tk1 11 170 rfl ?_
      simp only [Act.put, tka, tk0, tkS]
      refine wpAnyH_ready (rs := [4]) (by kernel_rfl) (by simp) ?_
      refine AllReadyH.cons (o := ⟨some 163, _, _, _, _, _⟩) rfl (fun K hK => ?_) AllReadyH.nil
      go_simp
      go_at_call 37; refine (HRd.out _).mono ?_; rintro e w' ⟨rfl, md, rfl⟩
      refine hK.out _ _ (by (try dsimp only); exact ⟨n0, n1, n2, n3, n4, n5, n6⟩) ?_
      clear hK K hHeld
      intro hHeld
      try simp only [Act.put, tka, tk0, tkS]
      refine tk1 5 164 rfl ?_
      simp only [Act.put, tka, tk0, tkS]
      refine tk1 6 165 rfl ?_
      simp only [Act.put, tka, tk0, tkS]
      refine tk1 12 171 rfl ?_
      simp only [Act.put, tka, tk0, tkS]
      refine tk1 13 2 rfl ?_
      simp only [Act.put, tka, tk0, tkS]
      refine wpAnyH_done (by kernel_rfl) ?_ _
      go_wp2_with fail
      go_ret
      exact ⟨by rw [HX.out]; rfl, by repeat (first | exact HB7.out | refine bd_ ?_ _ | refine Below.drew ?_ | refine bl_ ?_ _)⟩
     ·obtain ⟨A1, hA1, hcat1⟩ := catx (P := Tryz.prog) [77, 82, 83, 32] (regL d) (x := ({ data := #[77, 82, 83] } ++ { data := #[32] } : ByteArray)) (by kernel_rfl) (y := (ba (regL d))) rfl (by simp; omega)
      obtain ⟨A2, hA2, hcat2⟩ := catx (P := Tryz.prog) A1 [44] (x := (ba A1)) rfl (y := { data := #[44] }) rfl (by rw [hA1]; simp; omega)
      obtain ⟨A3, hA3, hcat3⟩ := catx (P := Tryz.prog) A2 [69, 76, 82, 95, 69, 76, 49] (x := (ba A2)) rfl (y := { data := #[69, 76, 82, 95, 69, 76, 49] }) rfl (by rw [hA2]; rw [hA1]; simp; omega)
      have HX := h_ (show a0d 23 d n m imm 2 = A3 by rw [HP.out, hA3, hA2, hA1]; unfold b0g; simp [sysL])
      clear hA1 hA2 hA3
      go_wp2_with fail
      have HNL := h_ (show Blk (w7.alloc (.cells #[.string { data := #[69, 83, 82, 95, 69, 76, 49] }, .string { data := #[70, 65, 82, 95, 69, 76, 49] }, .string { data := #[69, 76, 82, 95, 69, 76, 49] }] 9)) 9 w7.heap.size [.string { data := #[69, 83, 82, 95, 69, 76, 49] }, .string { data := #[70, 65, 82, 95, 69, 76, 49] }, .string { data := #[69, 76, 82, 95, 69, 76, 49] }] from Blk.new _ _ _)
      have HN8 := h_ (HN7.out.below (bl_ (Below.refl w7.heap.size w7) (.cells #[.string { data := #[69, 83, 82, 95, 69, 76, 49] }, .string { data := #[70, 65, 82, 95, 69, 76, 49] }, .string { data := #[69, 76, 82, 95, 69, 76, 49] }] 9)))
      clear n0 n1 n2 n3 n4 n5
      obtain ⟨n0, n1, n2, n3, n4, n5⟩ := a0b HN8.out
      have n6 : (w7.alloc (.cells #[.string { data := #[69, 83, 82, 95, 69, 76, 49] }, .string { data := #[70, 65, 82, 95, 69, 76, 49] }, .string { data := #[69, 76, 82, 95, 69, 76, 49] }] 9)).cell? ⟨w7.heap.size, 2, none⟩ = some (.string { data := #[69, 76, 82, 95, 69, 76, 49] }) := HNL.out.cell 2
      refine wp_region_held_drew (S := (fun w' => w'.cell? ⟨w.heap.size, 0, none⟩ = some (.int .i64 23) ∧ w'.cell? ⟨w.heap.size, 1, none⟩ = some (.int .i64 d) ∧ w'.cell? ⟨w.heap.size, 2, none⟩ = some (.int .i64 n) ∧ w'.cell? ⟨w.heap.size, 3, none⟩ = some (.int .i64 m) ∧ w'.cell? ⟨w.heap.size, 4, none⟩ = some (.int .i64 imm) ∧ w'.cell? ⟨w.heap.size, 5, none⟩ = some (.int .i64 2) ∧ w'.cell? ⟨w7.heap.size, 2, none⟩ = some (.string { data := #[69, 76, 82, 95, 69, 76, 49] }))) (by kernel_rfl) (by (try dsimp only); exact ⟨n0, n1, n2, n3, n4, n5, n6⟩) (fun hHeld => ?_)
      refine tk1 0 159 rfl ?_
      simp only [Act.put, tka, tk0, tkS]
      refine tk1 1 160 rfl ?_
      simp only [Act.put, tka, tk0, tkS]
      refine tk1 2 161 rfl ?_
      simp only [Act.put, tka, tk0, tkS]
      refine tk1 3 162 rfl ?_
      simp only [Act.put, tka, tk0, tkS]
      refine tk1 7 166 rfl ?_
      simp only [Act.put, tka, tk0, tkS]
      refine tk1 8 167 rfl ?_
      simp only [Act.put, tka, tk0, tkS]
      refine tk1 9 168 rfl ?_
      simp only [Act.put, tka, tk0, tkS]
      refine tk1 10 169 rfl ?_
      simp only [Act.put, tka, tk0, tkS]
      refine tk1 11 170 rfl ?_
      simp only [Act.put, tka, tk0, tkS]
      refine wpAnyH_ready (rs := [4]) (by kernel_rfl) (by simp) ?_
      refine AllReadyH.cons (o := ⟨some 163, _, _, _, _, _⟩) rfl (fun K hK => ?_) AllReadyH.nil
      go_simp
      go_at_call 37; refine (HRd.out _).mono ?_; rintro e w' ⟨rfl, md, rfl⟩
      refine hK.out _ _ (by (try dsimp only); exact ⟨n0, n1, n2, n3, n4, n5, n6⟩) ?_
      clear hK K hHeld
      intro hHeld
      try simp only [Act.put, tka, tk0, tkS]
      refine tk1 5 164 rfl ?_
      simp only [Act.put, tka, tk0, tkS]
      refine tk1 6 165 rfl ?_
      simp only [Act.put, tka, tk0, tkS]
      refine tk1 12 171 rfl ?_
      simp only [Act.put, tka, tk0, tkS]
      refine tk1 13 2 rfl ?_
      simp only [Act.put, tka, tk0, tkS]
      refine wpAnyH_done (by kernel_rfl) ?_ _
      go_wp2_with fail
      go_ret
      exact ⟨by rw [HX.out]; rfl, by repeat (first | exact HB7.out | refine bd_ ?_ _ | refine Below.drew ?_ | refine bl_ ?_ _)⟩))
theorem p0e (op d n m imm kind : Int) (w : World) :
  Calls Tryz.prog 38 #[b0w op d n m imm kind] w fun e w' => e = .returned (.string (ba (a0d op d n m imm kind))) ∧ Below w.heap.size w w' := by
 by_cases hr : b0i op d n m imm kind
 ·have ho : 1 ≤ op ∧ op ≤ 23 := hr.1.1
  have hoo : op = 1 ∨ op = 2 ∨ op = 3 ∨ op = 4 ∨ op = 5 ∨ op = 6 ∨ op = 7 ∨ op = 8 ∨ op = 9 ∨ op = 10 ∨ op = 11 ∨ op = 12 ∨ op = 13 ∨ op = 14 ∨ op = 15 ∨ op = 16 ∨ op = 17 ∨ op = 18 ∨ op = 19 ∨ op = 20 ∨ op = 21 ∨ op = 22 ∨ op = 23 := by omega
  rcases hoo with rfl | rfl | rfl | rfl | rfl | rfl | rfl | rfl | rfl | rfl | rfl | rfl | rfl | rfl | rfl | rfl | rfl | rfl | rfl | rfl | rfl | rfl | rfl
  all_goals exact m1a _ d n m imm kind w hr
 ·have HB := h_ (bl_ (Below.refl w.heap.size w) (.cells #[.int .i64 op, .int .i64 d, .int .i64 n, .int .i64 m, .int .i64 imm, .int .i64 kind] 91))
  have HC := h_ (q0f op d n m imm kind (w.alloc (.cells #[.int .i64 op, .int .i64 d, .int .i64 n, .int .i64 m, .int .i64 imm, .int .i64 kind] 91)))
  rw [s0v hr] at HC
  have HP := h_ (show a0d op d n m imm kind = [] from if_neg hr)
  clear hr
  go_enter Tryz.func38, Tryz.ntmps38
  go_wp2_with fail
  refine (HC.out).mono ?_
  rintro e w2 ⟨rfl, hb⟩
  have HB2 := h_ (bt_ HB.out hb)
  go_wp2_with fail
  go_ret
  exact ⟨by rw [HP.out]; rfl, by repeat (first | exact HB2.out | refine bd_ ?_ _ | refine Below.drew ?_ | refine bl_ ?_ _)⟩
end
end Go.Proofs.YtmnojnopejhebaaGreat
