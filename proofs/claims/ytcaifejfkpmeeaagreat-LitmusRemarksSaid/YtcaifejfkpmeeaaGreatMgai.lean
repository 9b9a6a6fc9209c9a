/- Reading a condition: the walk of one part. -/
import Derived.Test.YtcaifejfkpmeeaaGreatMgah
namespace Go.Proofs.YtcaifejfkpmeeaaGreat
open Go.RowKit
set_option linter.unusedVariables false
set_option linter.unusedSimpArgs false

theorem St.zs {w w' : World} {r n : Nat} {p : Option Addr} {c : Nat} {tk : List Tk} {x : Nat} {s : RS} {m : Nat} (h : St w w' r n p c tk x s m) :
    (w'.cell? ⟨w.heap.size, 0, none⟩ = some (.int .i64 0) ∧ w'.cell? ⟨w.heap.size, 1, none⟩ = some (.int .i64 0) ∧ w'.cell? ⟨w.heap.size, 2, none⟩ = some (.int .i64 0) ∧ w'.cell? ⟨w.heap.size, 3, none⟩ = some (.int .u64 0) ∧ w'.cell? ⟨w.heap.size, 4, none⟩ = some (.int .u64 0) ∧ w'.cell? ⟨w.heap.size, 5, none⟩ = some (.slice none 0 0)) ∧
    (w'.frozen? ⟨w.heap.size, 0, none⟩ = false ∧ w'.frozen? ⟨w.heap.size, 1, none⟩ = false ∧ w'.frozen? ⟨w.heap.size, 2, none⟩ = false ∧ w'.frozen? ⟨w.heap.size, 3, none⟩ = false ∧ w'.frozen? ⟨w.heap.size, 4, none⟩ = false ∧ w'.frozen? ⟨w.heap.size, 5, none⟩ = false) :=
  ⟨⟨h.z.cell 0, h.z.cell 1, h.z.cell 2, h.z.cell 3, h.z.cell 4, h.z.cell 5⟩, h.z.free 0, h.z.free 1, h.z.free 2, h.z.free 3, h.z.free 4, h.z.free 5⟩
theorem blk_cells6 {w : World} {g : Nat} {a b c d e f : Value} (h : Blk w 29 g [a, b, c, d, e, f]) :
    w.cell? ⟨g, 0, none⟩ = some a ∧ w.cell? ⟨g, 1, none⟩ = some b ∧ w.cell? ⟨g, 2, none⟩ = some c ∧ w.cell? ⟨g, 3, none⟩ = some d ∧ w.cell? ⟨g, 4, none⟩ = some e ∧ w.cell? ⟨g, 5, none⟩ = some f :=
  ⟨h.cell 0, h.cell 1, h.cell 2, h.cell 3, h.cell 4, h.cell 5⟩
theorem set6_alloc (w : World) (g : Nat) (hg : g < w.heap.size) (ob : Obj) (x y z u v q : Value) :
    (((((((w.setCell ⟨g, 0, none⟩ x).setCell ⟨g, 1, none⟩ y).setCell ⟨g, 2, none⟩ z).setCell ⟨g, 3, none⟩ u).setCell ⟨g, 4, none⟩ v).setCell ⟨g, 5, none⟩ q).alloc ob) = (((((((w.alloc ob).setCell ⟨g, 0, none⟩ x).setCell ⟨g, 1, none⟩ y).setCell ⟨g, 2, none⟩ z).setCell ⟨g, 3, none⟩ u).setCell ⟨g, 4, none⟩ v).setCell ⟨g, 5, none⟩ q) := by
  rw [World.setCell_alloc_past (n := g) (hn := hg), World.setCell_alloc_past (n := g) (hn := by simpa using hg), World.setCell_alloc_past (n := g) (hn := by simpa using hg), World.setCell_alloc_past (n := g) (hn := by simpa using hg), World.setCell_alloc_past (n := g) (hn := by simpa using hg), World.setCell_alloc_past (n := g) (hn := by simpa using hg)]
theorem leafR_cell {tk : List Tk} {s : RS} (h : isR tk s 3 ⟨#[91]⟩ = true) : leafR tk s = (.mk 2 0 0 (numberR tk (nextR tk s)).1 (valueR tk (mustR tk (numberR tk (nextR tk s)).2 3 ⟨#[93]⟩)).1 [], (valueR tk (mustR tk (numberR tk (nextR tk s)).2 3 ⟨#[93]⟩)).2) := by
  unfold leafR; rw [h]; rfl
theorem leafR_true {tk : List Tk} {s : RS} (h : isR tk s 3 ⟨#[91]⟩ = false) (h2 : isR tk s 1 ⟨#[116, 114, 117, 101]⟩ = true) : leafR tk s = (.mk 7 0 0 0 0 [], nextR tk s) := by
  unfold leafR; rw [h, h2]; rfl
theorem leafR_flt {tk : List Tk} {s : RS} (h : isR tk s 3 ⟨#[91]⟩ = false) (h2 : isR tk s 1 ⟨#[116, 114, 117, 101]⟩ = false) (h3 : isR tk s 1 ⟨#[102, 97, 117, 108, 116, 115]⟩ = true) :
    leafR tk s = (.mk 3 ((smallR tk (nextR tk s) 4).1 : Nat) 0 0 (valueR tk (smallR tk (nextR tk s) 4).2).1 [], (valueR tk (smallR tk (nextR tk s) 4).2).2) := by
  unfold leafR; rw [h, h2, h3]; rfl
theorem leafR_reg {tk : List Tk} {s : RS} (h : isR tk s 3 ⟨#[91]⟩ = false) (h2 : isR tk s 1 ⟨#[116, 114, 117, 101]⟩ = false) (h3 : isR tk s 1 ⟨#[102, 97, 117, 108, 116, 115]⟩ = false) :
    leafR tk s = (.mk 1 ((smallR tk s 4).1 : Nat) (((regN (peekR tk (mustR tk (smallR tk s 4).2 3 ⟨#[58]⟩)).2.1).getD 0 : Nat) : Int) 0 (valueR tk (nextR tk (regR tk (mustR tk (smallR tk s 4).2 3 ⟨#[58]⟩)))).1 [], (valueR tk (nextR tk (regR tk (mustR tk (smallR tk s 4).2 3 ⟨#[58]⟩)))).2) := by
  unfold leafR; rw [h, h2, h3]; rfl
set_option maxRecDepth 100000 in
set_option maxHeartbeats 3200000 in
theorem one_step (tk : List Tk) (f : Nat) (HE0 : POK tk f 59 .either 3) (HO0 : POK tk f 100 .one 1) : POK tk (f + 1) 100 .one 1 := by
  intro w r n p c x s m h hfw hfu
  have HE := Lib.hid HE0
  have HO := Lib.hid HO0
  have HFW := Lib.hid hfw
  obtain ⟨Y, hY⟩ : ∃ Y, Y = parseF tk (f + 1) .one s m := ⟨_, rfl⟩
  rw [← hY]
  have HY := Lib.hid hY
  have hm := hfw.1
  clear hY hfw HE0 HO0
  have HS1 := Lib.hid (St.start h)
  have HOK := Lib.hid (ok_any _ (St.start h).c)
  have hxw := h.lt
  clear h
  go_enter Tryz.func100, Tryz.ntmps100
  go_wp2_with fail
  refine (HOK.out).mono ?_
  rintro e w2 ⟨rfl, hb⟩
  have HS2 := Lib.hid (HS1.out.below hb)
  clear hb HS1 HOK
  cases ho : okR s
  · have HM := Lib.hid (more_any w2 HS2.out.c (by omega))
    go_wp2_with fail
    refine (HM.out).mono ?_
    rintro e w3 ⟨rfl, hc, hg⟩
    have HS3 := Lib.hid (HS2.out.cat hc hg)
    clear hc hg HS2 HM
    have HOK := Lib.hid (ok_any _ HS3.out.c)
    have ho2 : okR (moreR tk s m) = false := by
      have h1 : ¬ s.code = 0 := by simpa [okR] using ho
      simpa [okR] using fun h2 => h1 ((mono_more tk s m).code h2)
    rw [ho2] at HOK
    go_wp2_with fail
    refine (HOK.out).mono ?_
    rintro e w4 ⟨rfl, hb⟩
    have HS4 := Lib.hid (HS3.out.below hb)
    clear hb HS3 HOK
    have HP := Lib.hid (show Y = (cF, moreR tk s m, m + 1) from by rw [HY.out]; simp only [parseF]; simp [ho, ho2])
    obtain ⟨⟨z0, z1, z2, z3, z4, z5⟩, y0, y1, y2, y3, y4, y5⟩ := HS4.out.zs
    have hz4 := HS4.out.lt
    go_wp2_with fail
    exact HS4.out.done (at_leaf _ _ 0 0 0 0 0 (by decide) ⟨by decide, by decide, by decide, by decide⟩) HP.out (fun e W h => h) (fun W hb => results_cell_row rfl _ _ w.heap.size 29 #[.int .i64 0, .int .i64 0, .int .i64 0, .int .u64 0, .int .u64 0, .slice none 0 0] (0, 0) _ rfl hb Tryz.underlying29 rfl (by kernel_rfl)) rfl
  have HI := is_any w2 3 ⟨#[40]⟩ HS2.out.c.2.1
  cases hp : isR tk s 3 ⟨#[40]⟩
  · rw [hp] at HI
    simp only [Bool.false_eq_true, if_false] at HI
    have HI := Lib.hid HI
    have c0 := HS2.out.c0
    have hx2 := HS2.out.xlt
    go_wp2_with fail
    refine (HI.out).mono ?_
    rintro e w3 ⟨rfl, hr, hg⟩
    have HS3 := Lib.hid (HS2.out.rd hr hg)
    clear hr hg HS2 HI c0 hx2
    have HM := Lib.hid (more_any w3 HS3.out.c (by omega))
    go_wp2_with fail
    refine (HM.out).mono ?_
    rintro e w4 ⟨rfl, hc, hg⟩
    have HS4 := Lib.hid (HS3.out.cat hc hg)
    clear hc hg HS3 HM
    have HOK := Lib.hid (ok_any _ HS4.out.c)
    have hfm : Few 66 (moreR tk s m) (m + 1) := few_more (b := 65) hm
    have hmk := (mono_more tk s m).k
    have HP := Lib.hid (show (okR (moreR tk s m) = false → Y = (cF, moreR tk s m, m + 1)) ∧ (okR (moreR tk s m) = true → Y = if isR tk (moreR tk s m) 3 ⟨#[126]⟩ then (.mk 6 0 0 0 0 [(parseF tk f .one (nextR tk (moreR tk s m)) (m + 1)).1], (parseF tk f .one (nextR tk (moreR tk s m)) (m + 1)).2.1, (parseF tk f .one (nextR tk (moreR tk s m)) (m + 1)).2.2) else ((leafR tk (moreR tk s m)).1, (leafR tk (moreR tk s m)).2, m + 1)) from ⟨fun e => by rw [HY.out]; simp only [parseF]; simp [ho, hp, e], fun e => by rw [HY.out]; simp only [parseF]; simp [ho, hp, e]⟩)
    generalize moreR tk s m = s1 at *
    cases ho2 : okR s1
    · rw [ho2] at HOK
      have HP := Lib.hid (HP.out.1 ho2)
      go_wp2_with fail
      refine (HOK.out).mono ?_
      rintro e w5 ⟨rfl, hb⟩
      have HS5 := Lib.hid (HS4.out.below hb)
      clear hb HS4 HOK
      obtain ⟨⟨z0, z1, z2, z3, z4, z5⟩, y0, y1, y2, y3, y4, y5⟩ := HS5.out.zs
      have hz5 := HS5.out.lt
      go_wp2_with fail
      exact HS5.out.done (at_leaf _ _ 0 0 0 0 0 (by decide) ⟨by decide, by decide, by decide, by decide⟩) HP.out (fun e W h => h) (fun W hb => results_cell_row rfl _ _ w.heap.size 29 #[.int .i64 0, .int .i64 0, .int .i64 0, .int .u64 0, .int .u64 0, .slice none 0 0] (0, 0) _ rfl hb Tryz.underlying29 rfl (by kernel_rfl)) rfl
    rw [ho2] at HOK
    have HP := Lib.hid (HP.out.2 ho2)
    go_wp2_with fail
    refine (HOK.out).mono ?_
    rintro e w5 ⟨rfl, hb⟩
    have HS5 := Lib.hid (HS4.out.below hb)
    clear hb HS4 HOK
    have HI := is_any w5 3 ⟨#[126]⟩ HS5.out.c.2.1
    cases hn : isR tk s1 3 ⟨#[126]⟩
    · rw [hn] at HI
      simp only [Bool.false_eq_true, if_false] at HI
      have HI := Lib.hid HI
      have c0 := HS5.out.c0
      have hx5 := HS5.out.xlt
      go_wp2_with fail
      refine (HI.out).mono ?_
      rintro e w6 ⟨rfl, hr, hg⟩
      have HS6 := Lib.hid (HS5.out.rd hr hg)
      clear hr hg HS5 HI c0 hx5
      have HP := Lib.hid (show Y = ((leafR tk s1).1, (leafR tk s1).2, m + 1) from by rw [HP.out, hn]; rfl)
      have HI := is_any w6 3 ⟨#[91]⟩ HS6.out.c.2.1
      cases hc : isR tk s1 3 ⟨#[91]⟩
      · rw [hc] at HI
        simp only [Bool.false_eq_true, if_false] at HI
        have HI := Lib.hid HI
        have c0 := HS6.out.c0
        have hx6 := HS6.out.xlt
        go_wp2_with fail
        refine (HI.out).mono ?_
        rintro e w7 ⟨rfl, hr, hg⟩
        have HS7 := Lib.hid (HS6.out.rd hr hg)
        clear hr hg HS6 HI c0 hx6
        have HI := is_any w7 1 ⟨#[116, 114, 117, 101]⟩ HS7.out.c.2.1
        cases ht : isR tk s1 1 ⟨#[116, 114, 117, 101]⟩
        · rw [ht] at HI
          simp only [Bool.false_eq_true, if_false] at HI
          have HI := Lib.hid HI
          have c0 := HS7.out.c0
          have hx7 := HS7.out.xlt
          go_wp2_with fail
          refine (HI.out).mono ?_
          rintro e w8 ⟨rfl, hr, hg⟩
          have HS8 := Lib.hid (HS7.out.rd hr hg)
          clear hr hg HS7 HI c0 hx7
          have HI := is_any w8 1 ⟨#[102, 97, 117, 108, 116, 115]⟩ HS8.out.c.2.1
          cases hf : isR tk s1 1 ⟨#[102, 97, 117, 108, 116, 115]⟩
          · rw [hf] at HI
            simp only [Bool.false_eq_true, if_false] at HI
            have HI := Lib.hid HI
            have c0 := HS8.out.c0
            have hx8 := HS8.out.xlt
            go_wp2_with fail
            refine (HI.out).mono ?_
            rintro e w9 ⟨rfl, hr, hg⟩
            have HS9 := Lib.hid (HS8.out.rd hr hg)
            clear hr hg HS8 HI c0 hx8
            have HL := Lib.hid (leafR_reg hc ht hf)
            have HC := Lib.hid (small_any w9 4 (by decide) (by decide) HS9.out.c.2.1)
            have hsl := smallR_lt tk s1 4 (by decide)
            generalize hsm : smallR tk s1 4 = sm at *
            have HSM := Lib.hid hsm
            clear hsm
            have c0 := HS9.out.c0
            have hx9 := HS9.out.xlt
            go_wp2_with fail
            refine (HC.out).mono ?_
            rintro e w10 ⟨rfl, hr, hg⟩
            have HS10 := Lib.hid (HS9.out.rd hr hg)
            clear hr hg HS9 HC c0 hx9
            have HN := Lib.hid (show Blk (w10.alloc (.cells #[.int .i64 1, .int .i64 (sm.1 : Nat), .int .i64 0, .int .u64 0, .int .u64 0, .slice none 0 0] 29)) 29 w10.heap.size [.int .i64 1, .int .i64 (sm.1 : Nat), .int .i64 0, .int .u64 0, .int .u64 0, .slice none 0 0] from Blk.new _ _ _)
            have HSA := Lib.hid (HS10.out.alloc (.cells #[.int .i64 1, .int .i64 (sm.1 : Nat), .int .i64 0, .int .u64 0, .int .u64 0, .slice none 0 0] 29))
            have HC := Lib.hid (must_any _ 3 ⟨#[58]⟩ HSA.out.c.2.1)
            have hx10 := HS10.out.xlt
            have c0 := HS10.out.c0
            have hl10 := HS10.out.lt
            have hrl := HS10.out.hr
            go_wp2_with fail
            refine (HC.out).mono ?_
            rintro e w11 ⟨rfl, hr, hg⟩
            have HS11 := Lib.hid (HSA.out.rd hr hg)
            have hz11 : w10.heap.size < w11.heap.size := by have := hg.size; simp at this; omega
            have HN11 := Lib.hid (HN.out.kept hg (by intro e; injection e; omega))
            clear hr hg HC HN HSA c0 hx10 HS10
            generalize hs2 : mustR tk sm.2 3 ⟨#[58]⟩ = s2 at *
            have HS2E := Lib.hid hs2
            clear hs2
            have HC := peek_any w11 HS11.out.c.2.1
            have HRG := Lib.hid (show ((regN (peekR tk s2).2.1 = none ∨ regN (peekR tk s2).2.1 = some 31 ∨ ¬ (peekR tk s2).1 = 1) → regR tk s2 = failR tk s2 110) ∧ (¬ (regN (peekR tk s2).2.1 = none ∨ regN (peekR tk s2).2.1 = some 31 ∨ ¬ (peekR tk s2).1 = 1) → regR tk s2 = s2) from ⟨fun e => by unfold regR; rw [if_pos e], fun e => by unfold regR; rw [if_neg e]⟩)
            have HFL := Lib.hid (fun w0 (hw : RdrAt w0 r n p c tk s2) => fail_any w0 110 hw)
            have HPK := Lib.hid (fun w0 (hw : RdrAt w0 r n p c tk s2) => peek_any w0 hw)
            generalize hpk : peekR tk s2 = pk at *
            have HPKE := Lib.hid hpk
            clear hpk
            obtain ⟨k1, k2, k3⟩ := pk
            simp only [tkV] at HC HPK
            have HC := Lib.hid HC
            have hf0 := fun w => tok_field0 k1 k2 k3 w
            have hf1 := fun w => tok_field1 k1 k2 k3 w
            have HNO := numberOf_any k2
            have c0 := HS11.out.c0
            have hx11 := HS11.out.xlt
            go_wp2_with fail
            refine (HC.out).mono ?_
            rintro e w12 ⟨rfl, hb⟩
            have HN12 := Lib.hid (HN11.out.below hb)
            have hz12 : w10.heap.size < w12.heap.size := by have := hb.size; omega
            have HS12 := Lib.hid (HS11.out.below hb)
            clear hb HC HN11 HS11 c0 hx11
            have hj32 := fun j => regN_lt (s := k2) (j := j)
            generalize hrn : regN k2 = rn at *
            have HNO := Lib.hid (HNO w12)
            go_wp2_with fail
            refine (HNO.out).mono ?_
            rintro e w13 ⟨rfl, m13, hw13⟩
            have HN13 := Lib.hid (hw13 ▸ HN12.out.dn m13)
            have HS13 := Lib.hid (hw13 ▸ HS12.out.below (below_drewN (Below.refl _ _) m13))
            have hz13 : w10.heap.size < w13.heap.size := by rw [hw13]; exact hz12
            clear HNO HN12 HS12 hw13
            clear hrn
            cases rn
            · simp only [regNV]
              have HC := Lib.hid (HFL.out w13 HS13.out.c.2.1)
              have c0 := HS13.out.c0
              have hx13 := HS13.out.xlt
              go_wp2_with fail
              refine (HC.out).mono ?_
              rintro e w14 ⟨rfl, hr, hg⟩
              have HS14 := Lib.hid (HS13.out.rd hr hg)
              have hz14 : w10.heap.size < w14.heap.size := by have := hg.size; omega
              have HN14 := Lib.hid (HN13.out.kept hg (by intro e; injection e; omega))
              clear hr hg HC c0 hx13 HS13 HN13
              have HRR := HRG.out.1 (by simp)
              rw [← HRR] at HS14
              clear HRR
              generalize regR tk s2 = s3 at *
              have HST := Lib.hid (HS14.out.set (b := w10.heap.size) hl10 2 (.int .i64 0))
              have HNT := Lib.hid (show Blk (w14.setCell ⟨w10.heap.size, 2, none⟩ (.int .i64 0)) 29 w10.heap.size [.int .i64 1, .int .i64 (sm.1 : Nat), .int .i64 0, .int .u64 0, .int .u64 0, .slice none 0 0] from by simpa using HN14.out.set 2 (.int .i64 0))
              have HC := Lib.hid (next_any _ HST.out.c.2.1)
              have c0 := HST.out.c0
              have nn2 := HN14.out.cell 2
              have nf2 := HN14.out.free 2
              simp only [List.getElem?_cons_zero, List.getElem?_cons_succ] at nn2
              have hxt := HS14.out.xlt
              have c0' := HS14.out.c0
              go_wp2_with fail
              refine (HC.out).mono ?_
              rintro e w20 ⟨rfl, hr, hg⟩
              have HS20 := Lib.hid (HST.out.rd hr hg)
              have hz20 : w10.heap.size < w20.heap.size := by have := hg.size; simp at this; omega
              have HN20 := Lib.hid (HNT.out.kept hg (by intro e; injection e; omega))
              clear hr hg HC HST HNT c0 nn2 nf2 hxt c0' HS14 HN14
              obtain ⟨n0, n1, n2, n3, n4, n5⟩ := blk_cells6 HN20.out
              have HC := value_any w20 1 (sm.1 : Nat) 0 0 0 HS20.out.c
              simp only [condA] at HC
              have HC := Lib.hid HC
              have hvl := valueR_lt tk (nextR tk s3)
              generalize hvv : valueR tk (nextR tk s3) = vv at *
              clear hvv
              have c0 := HS20.out.c0
              have hx20 := HS20.out.xlt
              go_wp2_with fail
              refine (HC.out).mono ?_
              rintro e w21 ⟨rfl, hc, hg⟩
              have HS21 := Lib.hid (HS20.out.cat hc (G2.ofR hg))
              clear hc hg HS20 HC n0 n1 n2 n3 n4 n5 HN20 c0 hx20
              obtain ⟨⟨z0, z1, z2, z3, z4, z5⟩, y0, y1, y2, y3, y4, y5⟩ := HS21.out.zs
              have hz21 := HS21.out.lt
              go_wp2_with fail
              exact HS21.out.done (at_leaf _ _ 1 (sm.1 : Nat) 0 0 vv.1 (by decide) ⟨hvl, by decide, ⟨by omega, by omega⟩, ⟨by omega, by omega⟩⟩) (HP.out.trans (by rw [HL.out]; rfl)) (fun e W h => h) (fun W hb => results_cell_row rfl _ _ w.heap.size 29 #[.int .i64 1, .int .i64 (sm.1 : Nat), .int .i64 0, .int .u64 0, .int .u64 vv.1, .slice none 0 0] (0, 0) _ rfl hb Tryz.underlying29 rfl (by kernel_rfl)) rfl
            rename_i j
            have hj32 := hj32 j rfl
            simp only [regNV]
            by_cases hj : j = 31
            · subst hj
              have HC := Lib.hid (HFL.out w13 HS13.out.c.2.1)
              have c0 := HS13.out.c0
              have hx13 := HS13.out.xlt
              go_wp2_with fail
              refine (HC.out).mono ?_
              rintro e w14 ⟨rfl, hr, hg⟩
              have HS14 := Lib.hid (HS13.out.rd hr hg)
              have hz14 : w10.heap.size < w14.heap.size := by have := hg.size; omega
              have HN14 := Lib.hid (HN13.out.kept hg (by intro e; injection e; omega))
              clear hr hg HC c0 hx13 HS13 HN13
              have HRR := HRG.out.1 (by simp)
              rw [← HRR] at HS14
              clear HRR
              generalize regR tk s2 = s3 at *
              have HST := Lib.hid (HS14.out.set (b := w10.heap.size) hl10 2 (.int .i64 31))
              have HNT := Lib.hid (show Blk (w14.setCell ⟨w10.heap.size, 2, none⟩ (.int .i64 31)) 29 w10.heap.size [.int .i64 1, .int .i64 (sm.1 : Nat), .int .i64 31, .int .u64 0, .int .u64 0, .slice none 0 0] from by simpa using HN14.out.set 2 (.int .i64 31))
              have HC := Lib.hid (next_any _ HST.out.c.2.1)
              have c0 := HST.out.c0
              have nn2 := HN14.out.cell 2
              have nf2 := HN14.out.free 2
              simp only [List.getElem?_cons_zero, List.getElem?_cons_succ] at nn2
              have hxt := HS14.out.xlt
              have c0' := HS14.out.c0
              go_wp2_with fail
              refine (HC.out).mono ?_
              rintro e w20 ⟨rfl, hr, hg⟩
              have HS20 := Lib.hid (HST.out.rd hr hg)
              have hz20 : w10.heap.size < w20.heap.size := by have := hg.size; simp at this; omega
              have HN20 := Lib.hid (HNT.out.kept hg (by intro e; injection e; omega))
              clear hr hg HC HST HNT c0 nn2 nf2 hxt c0' HS14 HN14
              obtain ⟨n0, n1, n2, n3, n4, n5⟩ := blk_cells6 HN20.out
              have HC := value_any w20 1 (sm.1 : Nat) 31 0 0 HS20.out.c
              simp only [condA] at HC
              have HC := Lib.hid HC
              have hvl := valueR_lt tk (nextR tk s3)
              generalize hvv : valueR tk (nextR tk s3) = vv at *
              clear hvv
              have c0 := HS20.out.c0
              have hx20 := HS20.out.xlt
              go_wp2_with fail
              refine (HC.out).mono ?_
              rintro e w21 ⟨rfl, hc, hg⟩
              have HS21 := Lib.hid (HS20.out.cat hc (G2.ofR hg))
              clear hc hg HS20 HC n0 n1 n2 n3 n4 n5 HN20 c0 hx20
              obtain ⟨⟨z0, z1, z2, z3, z4, z5⟩, y0, y1, y2, y3, y4, y5⟩ := HS21.out.zs
              have hz21 := HS21.out.lt
              go_wp2_with fail
              exact HS21.out.done (at_leaf _ _ 1 (sm.1 : Nat) 31 0 vv.1 (by decide) ⟨hvl, by decide, ⟨by omega, by omega⟩, ⟨by omega, by omega⟩⟩) (HP.out.trans (by rw [HL.out]; rfl)) (fun e W h => h) (fun W hb => results_cell_row rfl _ _ w.heap.size 29 #[.int .i64 1, .int .i64 (sm.1 : Nat), .int .i64 31, .int .u64 0, .int .u64 vv.1, .slice none 0 0] (0, 0) _ rfl hb Tryz.underlying29 rfl (by kernel_rfl)) rfl
            have hjb : ((j : Int) == 31) = false := by rw [beq_eq_false_iff_ne]; omega
            have hji : ¬ (j : Int) = 31 := by omega
            have HC := Lib.hid (HPK.out w13 HS13.out.c.2.1)
            have c0 := HS13.out.c0
            have hx13 := HS13.out.xlt
            go_wp2_with fail
            refine (HC.out).mono ?_
            rintro e w14 ⟨rfl, hb⟩
            have HN14 := Lib.hid (HN13.out.below hb)
            have hz14 : w10.heap.size < w14.heap.size := by have := hb.size; omega
            have HS14 := Lib.hid (HS13.out.below hb)
            clear hb HC HN13 HS13 c0 hx13
            by_cases hk : k1 = 1
            · subst hk
              have HRR := HRG.out.2 (by simp [hj])
              rw [← HRR] at HS14
              clear HRR
              generalize regR tk s2 = s3 at *
              have HST := Lib.hid (HS14.out.set (b := w10.heap.size) hl10 2 (.int .i64 (j : Nat)))
              have HNT := Lib.hid (show Blk (w14.setCell ⟨w10.heap.size, 2, none⟩ (.int .i64 (j : Nat))) 29 w10.heap.size [.int .i64 1, .int .i64 (sm.1 : Nat), .int .i64 (j : Nat), .int .u64 0, .int .u64 0, .slice none 0 0] from by simpa using HN14.out.set 2 (.int .i64 (j : Nat)))
              have HC := Lib.hid (next_any _ HST.out.c.2.1)
              have c0 := HST.out.c0
              have nn2 := HN14.out.cell 2
              have nf2 := HN14.out.free 2
              simp only [List.getElem?_cons_zero, List.getElem?_cons_succ] at nn2
              have hxt := HS14.out.xlt
              have c0' := HS14.out.c0
              go_wp2_with fail
              refine (HC.out).mono ?_
              rintro e w20 ⟨rfl, hr, hg⟩
              have HS20 := Lib.hid (HST.out.rd hr hg)
              have hz20 : w10.heap.size < w20.heap.size := by have := hg.size; simp at this; omega
              have HN20 := Lib.hid (HNT.out.kept hg (by intro e; injection e; omega))
              clear hr hg HC HST HNT c0 nn2 nf2 hxt c0' HS14 HN14
              obtain ⟨n0, n1, n2, n3, n4, n5⟩ := blk_cells6 HN20.out
              have HC := value_any w20 1 (sm.1 : Nat) (j : Nat) 0 0 HS20.out.c
              simp only [condA] at HC
              have HC := Lib.hid HC
              have hvl := valueR_lt tk (nextR tk s3)
              generalize hvv : valueR tk (nextR tk s3) = vv at *
              clear hvv
              have c0 := HS20.out.c0
              have hx20 := HS20.out.xlt
              go_wp2_with fail
              refine (HC.out).mono ?_
              rintro e w21 ⟨rfl, hc, hg⟩
              have HS21 := Lib.hid (HS20.out.cat hc (G2.ofR hg))
              clear hc hg HS20 HC n0 n1 n2 n3 n4 n5 HN20 c0 hx20
              obtain ⟨⟨z0, z1, z2, z3, z4, z5⟩, y0, y1, y2, y3, y4, y5⟩ := HS21.out.zs
              have hz21 := HS21.out.lt
              go_wp2_with fail
              exact HS21.out.done (at_leaf _ _ 1 (sm.1 : Nat) (j : Nat) 0 vv.1 (by decide) ⟨hvl, by decide, ⟨by omega, by omega⟩, ⟨by omega, by omega⟩⟩) (HP.out.trans (by rw [HL.out]; rfl)) (fun e W h => h) (fun W hb => results_cell_row rfl _ _ w.heap.size 29 #[.int .i64 1, .int .i64 (sm.1 : Nat), .int .i64 (j : Nat), .int .u64 0, .int .u64 vv.1, .slice none 0 0] (0, 0) _ rfl hb Tryz.underlying29 rfl (by kernel_rfl)) rfl
            have hkb : (k1 == 1) = false := by rw [beq_eq_false_iff_ne]; exact hk
            have hkb2 : (k1 != 1) = true := by rw [bne_iff_ne]; exact hk
            have HC := Lib.hid (HFL.out w14 HS14.out.c.2.1)
            have c0 := HS14.out.c0
            have hx14 := HS14.out.xlt
            go_wp2_with fail
            refine (HC.out).mono ?_
            rintro e w15 ⟨rfl, hr, hg⟩
            have HS15 := Lib.hid (HS14.out.rd hr hg)
            have hz15 : w10.heap.size < w15.heap.size := by have := hg.size; omega
            have HN15 := Lib.hid (HN14.out.kept hg (by intro e; injection e; omega))
            clear hr hg HC c0 hx14 HS14 HN14
            have HRR := HRG.out.1 (.inr (.inr hk))
            rw [← HRR] at HS15
            clear HRR
            generalize regR tk s2 = s3 at *
            have HST := Lib.hid (HS15.out.set (b := w10.heap.size) hl10 2 (.int .i64 (j : Nat)))
            have HNT := Lib.hid (show Blk (w15.setCell ⟨w10.heap.size, 2, none⟩ (.int .i64 (j : Nat))) 29 w10.heap.size [.int .i64 1, .int .i64 (sm.1 : Nat), .int .i64 (j : Nat), .int .u64 0, .int .u64 0, .slice none 0 0] from by simpa using HN15.out.set 2 (.int .i64 (j : Nat)))
            have HC := Lib.hid (next_any _ HST.out.c.2.1)
            have c0 := HST.out.c0
            have nn2 := HN15.out.cell 2
            have nf2 := HN15.out.free 2
            simp only [List.getElem?_cons_zero, List.getElem?_cons_succ] at nn2
            have hxt := HS15.out.xlt
            have c0' := HS15.out.c0
            go_wp2_with fail
            refine (HC.out).mono ?_
            rintro e w20 ⟨rfl, hr, hg⟩
            have HS20 := Lib.hid (HST.out.rd hr hg)
            have hz20 : w10.heap.size < w20.heap.size := by have := hg.size; simp at this; omega
            have HN20 := Lib.hid (HNT.out.kept hg (by intro e; injection e; omega))
            clear hr hg HC HST HNT c0 nn2 nf2 hxt c0' HS15 HN15
            obtain ⟨n0, n1, n2, n3, n4, n5⟩ := blk_cells6 HN20.out
            have HC := value_any w20 1 (sm.1 : Nat) (j : Nat) 0 0 HS20.out.c
            simp only [condA] at HC
            have HC := Lib.hid HC
            have hvl := valueR_lt tk (nextR tk s3)
            generalize hvv : valueR tk (nextR tk s3) = vv at *
            clear hvv
            have c0 := HS20.out.c0
            have hx20 := HS20.out.xlt
            go_wp2_with fail
            refine (HC.out).mono ?_
            rintro e w21 ⟨rfl, hc, hg⟩
            have HS21 := Lib.hid (HS20.out.cat hc (G2.ofR hg))
            clear hc hg HS20 HC n0 n1 n2 n3 n4 n5 HN20 c0 hx20
            obtain ⟨⟨z0, z1, z2, z3, z4, z5⟩, y0, y1, y2, y3, y4, y5⟩ := HS21.out.zs
            have hz21 := HS21.out.lt
            go_wp2_with fail
            exact HS21.out.done (at_leaf _ _ 1 (sm.1 : Nat) (j : Nat) 0 vv.1 (by decide) ⟨hvl, by decide, ⟨by omega, by omega⟩, ⟨by omega, by omega⟩⟩) (HP.out.trans (by rw [HL.out]; rfl)) (fun e W h => h) (fun W hb => results_cell_row rfl _ _ w.heap.size 29 #[.int .i64 1, .int .i64 (sm.1 : Nat), .int .i64 (j : Nat), .int .u64 0, .int .u64 vv.1, .slice none 0 0] (0, 0) _ rfl hb Tryz.underlying29 rfl (by kernel_rfl)) rfl
          · rw [hf] at HI
            simp only [if_true] at HI
            have hk_hf := isR_next hf (by decide)
            have HI := Lib.hid HI
            have c0 := HS8.out.c0
            have hx8 := HS8.out.xlt
            go_wp2_with fail
            refine (HI.out).mono ?_
            rintro e w9 ⟨rfl, hr, hg⟩
            have HS9 := Lib.hid (HS8.out.rd hr hg)
            clear hr hg HS8 HI c0 hx8
            have HL := Lib.hid (leafR_flt hc ht hf)
            have HC := Lib.hid (small_any w9 4 (by decide) (by decide) HS9.out.c.2.1)
            have hsl := smallR_lt tk (nextR tk s1) 4 (by decide)
            generalize hsm : smallR tk (nextR tk s1) 4 = sm at *
            clear hsm
            have c0 := HS9.out.c0
            have hx9 := HS9.out.xlt
            go_wp2_with fail
            refine (HC.out).mono ?_
            rintro e w10 ⟨rfl, hr, hg⟩
            have HS10 := Lib.hid (HS9.out.rd hr hg)
            clear hr hg HS9 HC c0 hx9
            have HC := value_any w10 3 (sm.1 : Nat) 0 0 0 HS10.out.c
            simp only [condA] at HC
            have HC := Lib.hid HC
            have hvl := valueR_lt tk sm.2
            generalize hvv : valueR tk sm.2 = vv at *
            clear hvv
            go_wp2_with fail
            refine (HC.out).mono ?_
            rintro e w11 ⟨rfl, hc, hg⟩
            have HS11 := Lib.hid (HS10.out.cat hc (G2.ofR hg))
            clear hc hg HS10 HC
            obtain ⟨⟨z0, z1, z2, z3, z4, z5⟩, y0, y1, y2, y3, y4, y5⟩ := HS11.out.zs
            have hz11 := HS11.out.lt
            go_wp2_with fail
            exact HS11.out.done (at_leaf _ _ 3 (sm.1 : Nat) 0 0 vv.1 (by decide) ⟨hvl, by decide, ⟨by omega, by omega⟩, by decide⟩) (HP.out.trans (by rw [HL.out])) (fun e W h => h) (fun W hb => results_cell_row rfl _ _ w.heap.size 29 #[.int .i64 3, .int .i64 (sm.1 : Nat), .int .i64 0, .int .u64 0, .int .u64 vv.1, .slice none 0 0] (0, 0) _ rfl hb Tryz.underlying29 rfl (by kernel_rfl)) rfl
        · rw [ht] at HI
          simp only [if_true] at HI
          have hk_ht := isR_next ht (by decide)
          have HI := Lib.hid HI
          have c0 := HS7.out.c0
          have hx7 := HS7.out.xlt
          go_wp2_with fail
          refine (HI.out).mono ?_
          rintro e w8 ⟨rfl, hr, hg⟩
          have HS8 := Lib.hid (HS7.out.rd hr hg)
          clear hr hg HS7 HI c0 hx7
          have HL := Lib.hid (leafR_true hc ht)
          obtain ⟨⟨z0, z1, z2, z3, z4, z5⟩, y0, y1, y2, y3, y4, y5⟩ := HS8.out.zs
          have hz8 := HS8.out.lt
          go_wp2_with fail
          exact HS8.out.done (at_leaf _ _ 7 0 0 0 0 (by decide) ⟨by decide, by decide, by decide, by decide⟩) (HP.out.trans (by rw [HL.out])) (fun e W h => h) (fun W hb => results_cell_row rfl _ _ w.heap.size 29 #[.int .i64 7, .int .i64 0, .int .i64 0, .int .u64 0, .int .u64 0, .slice none 0 0] (0, 0) _ rfl hb Tryz.underlying29 rfl (by kernel_rfl)) rfl
      · rw [hc] at HI
        simp only [if_true] at HI
        have hk_hc := isR_next hc (by decide)
        have HI := Lib.hid HI
        have c0 := HS6.out.c0
        have hx6 := HS6.out.xlt
        go_wp2_with fail
        refine (HI.out).mono ?_
        rintro e w7 ⟨rfl, hr, hg⟩
        have HS7 := Lib.hid (HS6.out.rd hr hg)
        clear hr hg HS6 HI c0 hx6
        have HL := Lib.hid (leafR_cell hc)
        have HC := Lib.hid (number_any w7 HS7.out.c.2.1)
        have hal := numberR_lt tk (nextR tk s1)
        generalize hsm : numberR tk (nextR tk s1) = sm at *
        clear hsm
        have c0 := HS7.out.c0
        have hx7 := HS7.out.xlt
        go_wp2_with fail
        refine (HC.out).mono ?_
        rintro e w8 ⟨rfl, hr, hg⟩
        have HS8 := Lib.hid (HS7.out.rd hr hg)
        clear hr hg HS7 HC c0 hx7
        have HN := Lib.hid (show Blk (w8.alloc (.cells #[.int .i64 2, .int .i64 0, .int .i64 0, .int .u64 (sm.1 : Nat), .int .u64 0, .slice none 0 0] 29)) 29 w8.heap.size [.int .i64 2, .int .i64 0, .int .i64 0, .int .u64 (sm.1 : Nat), .int .u64 0, .slice none 0 0] from Blk.new _ _ _)
        have HSA := Lib.hid (HS8.out.alloc (.cells #[.int .i64 2, .int .i64 0, .int .i64 0, .int .u64 (sm.1 : Nat), .int .u64 0, .slice none 0 0] 29))
        have HC := Lib.hid (must_any _ 3 ⟨#[93]⟩ HSA.out.c.2.1)
        have hx8 := HS8.out.xlt
        have c0 := HS8.out.c0
        have hrl := HS8.out.hr
        have hl8 := HS8.out.lt
        go_wp2_with fail
        refine (HC.out).mono ?_
        rintro e w9 ⟨rfl, hr, hg⟩
        have HS9 := Lib.hid (HSA.out.rd hr hg)
        have hz9 : w8.heap.size < w9.heap.size := by have := hg.size; simp at this; omega
        have HN9 := Lib.hid (HN.out.kept hg (by intro e; injection e; omega))
        clear hr hg HC HN HSA c0 hx8 HS8
        obtain ⟨n0, n1, n2, n3, n4, n5⟩ := blk_cells6 HN9.out
        have HC := value_any w9 2 0 0 sm.1 0 HS9.out.c
        simp only [condA] at HC
        have HC := Lib.hid HC
        have hvl := valueR_lt tk (mustR tk sm.2 3 ⟨#[93]⟩)
        generalize hvv : valueR tk (mustR tk sm.2 3 ⟨#[93]⟩) = vv at *
        clear hvv
        go_wp2_with fail
        refine (HC.out).mono ?_
        rintro e w10 ⟨rfl, hc, hg⟩
        have HS10 := Lib.hid (HS9.out.cat hc (G2.ofR hg))
        clear hc hg HS9 HC n0 n1 n2 n3 n4 n5 HN9
        obtain ⟨⟨z0, z1, z2, z3, z4, z5⟩, y0, y1, y2, y3, y4, y5⟩ := HS10.out.zs
        have hz10 := HS10.out.lt
        go_wp2_with fail
        exact HS10.out.done (at_leaf _ _ 2 0 0 sm.1 vv.1 hal ⟨hvl, by decide, by decide, by decide⟩) (HP.out.trans (by rw [HL.out])) (fun e W h => h) (fun W hb => results_cell_row rfl _ _ w.heap.size 29 #[.int .i64 2, .int .i64 0, .int .i64 0, .int .u64 sm.1, .int .u64 vv.1, .slice none 0 0] (0, 0) _ rfl hb Tryz.underlying29 rfl (by kernel_rfl)) rfl
    · rw [hn] at HI
      simp only [if_true] at HI
      have hk_hn := isR_next hn (by decide)
      have HI := Lib.hid HI
      have c0 := HS5.out.c0
      have hx5 := HS5.out.xlt
      go_wp2_with fail
      refine (HI.out).mono ?_
      rintro e w6 ⟨rfl, hr, hg⟩
      have HS6 := Lib.hid (HS5.out.rd hr hg)
      clear hr hg HS5 HI c0 hx5
      have hrm := HS6.out.room
      have hm64 := few_ok hfm ho2
      have HC := Lib.hid (HO.out w6 r n p c x _ (m + 1) HS6.out.c ⟨by omega, fun _ => hm64⟩ (by rw [hk_hn] at *; omega))
      have HP := Lib.hid (HP.out.trans (if_pos hn))
      generalize parseF tk f .one (nextR tk s1) (m + 1) = y at *
      go_wp2_with fail
      refine (HC.out).mono ?_
      rintro e w7 ⟨cs, rfl, ht, hc, hg⟩
      obtain ⟨k1, co1, rg1, ad1, va1, p1, l1, cp1, rfl⟩ := ht.cells
      have hlt6 := HS6.out.lt
      have HT := Lib.hid (ht.sub (S' := fun g => w.heap.size < g) (fun g hg _ => by omega))
      have HS7 := Lib.hid (HS6.out.cat hc hg)
      clear hc hg ht HC HS6
      have hl7 := HS7.out.lt
      have HB := Lib.hid (show Blk (w7.alloc (.cells #[.int .i64 k1, .int .i64 co1, .int .i64 rg1, .int .u64 ad1, .int .u64 va1, .slice p1 l1 cp1] 29)) 29 w7.heap.size (cells6 k1 co1 rg1 ad1 va1 (.slice p1 l1 cp1)) from Blk.new _ _ _)
      have HS8 := Lib.hid (HS7.out.alloc (.cells #[.int .i64 k1, .int .i64 co1, .int .i64 rg1, .int .u64 ad1, .int .u64 va1, .slice p1 l1 cp1] 29))
      have HT8 := Lib.hid (HT.out.below (below_alloc (Below.refl _ _) (.cells #[.int .i64 k1, .int .i64 co1, .int .i64 rg1, .int .u64 ad1, .int .u64 va1, .slice p1 l1 cp1] 29)))
      obtain ⟨⟨z0, z1, z2, z3, z4, z5⟩, y0, y1, y2, y3, y4, y5⟩ := HS7.out.zs
      go_wp2_with fail
      rw [set6_alloc _ _ hl7]
      exact HS8.out.done (at_one 6 (by decide) (by omega) rfl HB.out HT8.out) HP.out (fun e W h => h) (fun W hb => results_cell_row rfl _ _ w.heap.size 29 #[.int .i64 6, .int .i64 0, .int .i64 0, .int .u64 0, .int .u64 0, .slice (some ⟨w7.heap.size, 0, none⟩) 1 1] (0, 0) _ rfl hb Tryz.underlying29 rfl (by kernel_rfl)) rfl
  · rw [hp] at HI
    simp only [if_true] at HI
    have hk_hp := isR_next hp (by decide)
    have HI := Lib.hid HI
    have c0 := HS2.out.c0
    have hx2 := HS2.out.xlt
    go_wp2_with fail
    refine (HI.out).mono ?_
    rintro e w3 ⟨rfl, hr, hg⟩
    have HS3 := Lib.hid (HS2.out.rd hr hg)
    clear hr hg HS2 HI c0 hx2
    have hrm := HS3.out.room
    have HC := Lib.hid (HE.out w3 r n p c x _ m HS3.out.c (HFW.out.mono (mono_next tk s)) (by rw [hk_hp] at *; omega))
    have HP := Lib.hid (show Y = ((parseF tk f .either (nextR tk s) m).1, mustR tk (parseF tk f .either (nextR tk s) m).2.1 3 ⟨#[41]⟩, (parseF tk f .either (nextR tk s) m).2.2) from by rw [HY.out]; simp only [parseF]; simp [ho, hp])
    generalize parseF tk f .either (nextR tk s) m = y at *
    go_wp2_with fail
    refine (HC.out).mono ?_
    rintro e w4 ⟨cs, rfl, ht, hc, hg⟩
    obtain ⟨k1, co1, rg1, ad1, va1, p1, l1, cp1, rfl⟩ := ht.cells
    have hlt3 := HS3.out.lt
    have HT := Lib.hid (ht.sub (S' := fun g => w.heap.size < g) (fun g hg _ => by omega))
    have HS4 := Lib.hid (HS3.out.cat hc hg)
    clear hc hg ht HC HS3
    have hl4 := HS4.out.lt
    have c0 := HS4.out.c0
    have hx4 := HS4.out.xlt
    have hrl := HS4.out.hr
    have HB := Lib.hid (show Blk (w4.alloc (.cells #[.int .i64 k1, .int .i64 co1, .int .i64 rg1, .int .u64 ad1, .int .u64 va1, .slice p1 l1 cp1] 29)) 29 w4.heap.size [.int .i64 k1, .int .i64 co1, .int .i64 rg1, .int .u64 ad1, .int .u64 va1, .slice p1 l1 cp1] from Blk.new _ _ _)
    have HSA := Lib.hid (HS4.out.alloc (.cells #[.int .i64 k1, .int .i64 co1, .int .i64 rg1, .int .u64 ad1, .int .u64 va1, .slice p1 l1 cp1] 29))
    have HTA := Lib.hid (HT.out.below (below_alloc (Below.refl _ _) (.cells #[.int .i64 k1, .int .i64 co1, .int .i64 rg1, .int .u64 ad1, .int .u64 va1, .slice p1 l1 cp1] 29)))
    have HC := Lib.hid (must_any _ 3 ⟨#[41]⟩ HSA.out.c.2.1)
    go_wp2_with fail
    refine (HC.out).mono ?_
    rintro e w5 ⟨rfl, hr, hg⟩
    have HS5 := Lib.hid (HSA.out.rd hr hg)
    have hz5 : w4.heap.size < w5.heap.size := by have := hg.size; simp at this; omega
    have HN5 := Lib.hid (HB.out.kept hg (by intro e; injection e; omega))
    have HT5 := Lib.hid (HTA.out.g2 (G2.ofR (x := x) hg) (by omega) (by omega))
    clear hr hg HC HB HSA HTA c0 hx4 HS4 HT
    obtain ⟨n0, n1, n2, n3, n4, n5⟩ := blk_cells6 HN5.out
    obtain ⟨⟨z0, z1, z2, z3, z4, z5⟩, y0, y1, y2, y3, y4, y5⟩ := HS5.out.zs
    have hz5 := HS5.out.lt
    go_wp2_with fail
    exact HS5.out.done HT5.out HP.out (fun e W h => h) (fun W hb => results_cell_row rfl _ _ w.heap.size 29 #[.int .i64 k1, .int .i64 co1, .int .i64 rg1, .int .u64 ad1, .int .u64 va1, .slice p1 l1 cp1] (0, 0) _ rfl hb Tryz.underlying29 rfl (by kernel_rfl)) rfl
end Go.Proofs.YtcaifejfkpmeeaaGreat
