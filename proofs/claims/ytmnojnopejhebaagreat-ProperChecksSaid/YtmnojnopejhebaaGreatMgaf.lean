/- Reading a condition: parts with signs between them. -/
import Derived.Test.YtmnojnopejhebaaGreatMgae
namespace Go.Proofs.YtmnojnopejhebaaGreat
set_option linter.unusedVariables false
set_option linter.unusedSimpArgs false
set_option maxRecDepth 100000
set_option maxHeartbeats 25600000
section
open Go.RowKit
theorem St.zs {w w' : World} {r n : Nat} {p : Option Addr} {c : Nat} {tk : List Tk} {x : Nat} {s : RS} {m : Nat} (h : St w w' r n p c tk x s m) :
  (w'.cell? ⟨w.heap.size, 0, none⟩ = some (.int .i64 0) ∧ w'.cell? ⟨w.heap.size, 1, none⟩ = some (.int .i64 0) ∧ w'.cell? ⟨w.heap.size, 2, none⟩ = some (.int .i64 0) ∧ w'.cell? ⟨w.heap.size, 3, none⟩ = some (.int .u64 0) ∧ w'.cell? ⟨w.heap.size, 4, none⟩ = some (.int .u64 0) ∧ w'.cell? ⟨w.heap.size, 5, none⟩ = some (.slice none 0 0)) ∧
  (w'.frozen? ⟨w.heap.size, 0, none⟩ = false ∧ w'.frozen? ⟨w.heap.size, 1, none⟩ = false ∧ w'.frozen? ⟨w.heap.size, 2, none⟩ = false ∧ w'.frozen? ⟨w.heap.size, 3, none⟩ = false ∧ w'.frozen? ⟨w.heap.size, 4, none⟩ = false ∧ w'.frozen? ⟨w.heap.size, 5, none⟩ = false) :=
 ⟨⟨h.z.cell 0, h.z.cell 1, h.z.cell 2, h.z.cell 3, h.z.cell 4, h.z.cell 5⟩, h.z.free 0, h.z.free 1, h.z.free 2, h.z.free 3, h.z.free 4, h.z.free 5⟩
theorem c0d {w : World} {g : Nat} {a b c d e f : Value} (h : Blk w 29 g [a, b, c, d, e, f]) :
  w.cell? ⟨g, 0, none⟩ = some a ∧ w.cell? ⟨g, 1, none⟩ = some b ∧ w.cell? ⟨g, 2, none⟩ = some c ∧ w.cell? ⟨g, 3, none⟩ = some d ∧ w.cell? ⟨g, 4, none⟩ = some e ∧ w.cell? ⟨g, 5, none⟩ = some f :=
 ⟨h.cell 0, h.cell 1, h.cell 2, h.cell 3, h.cell 4, h.cell 5⟩
theorem i0v (w : World) (g : Nat) (hg : g < w.heap.size) (ob : Obj) (x y z u v q : Value) :
  (((((((w.setCell ⟨g, 0, none⟩ x).setCell ⟨g, 1, none⟩ y).setCell ⟨g, 2, none⟩ z).setCell ⟨g, 3, none⟩ u).setCell ⟨g, 4, none⟩ v).setCell ⟨g, 5, none⟩ q).alloc ob) = (((((((w.alloc ob).setCell ⟨g, 0, none⟩ x).setCell ⟨g, 1, none⟩ y).setCell ⟨g, 2, none⟩ z).setCell ⟨g, 3, none⟩ u).setCell ⟨g, 4, none⟩ v).setCell ⟨g, 5, none⟩ q) := by
 rw [World.setCell_alloc_past (n := g) (hn := hg), World.setCell_alloc_past (n := g) (hn := by simpa using hg), World.setCell_alloc_past (n := g) (hn := by simpa using hg), World.setCell_alloc_past (n := g) (hn := by simpa using hg), World.setCell_alloc_past (n := g) (hn := by simpa using hg), World.setCell_alloc_past (n := g) (hn := by simpa using hg)]
theorem a1g {tk : List Tk} {s : RS} (h : isR tk s 3 ⟨#[91]⟩ = true) : h0u tk s = (.mk 2 0 0 (a0c tk (a0v tk s)).1 (d0v tk (d0z tk (a0c tk (a0v tk s)).2 3 ⟨#[93]⟩)).1 [], (d0v tk (d0z tk (a0c tk (a0v tk s)).2 3 ⟨#[93]⟩)).2) := by
 unfold h0u; rw [h]; rfl
theorem a1f {tk : List Tk} {s : RS} (h : isR tk s 3 ⟨#[91]⟩ = false) (h2 : isR tk s 1 ⟨#[116, 114, 117, 101]⟩ = true) : h0u tk s = (.mk 7 0 0 0 0 [], a0v tk s) := by
 unfold h0u; rw [h, h2]; rfl
theorem f1f {tk : List Tk} {s : RS} (h : isR tk s 3 ⟨#[91]⟩ = false) (h2 : isR tk s 1 ⟨#[116, 114, 117, 101]⟩ = false) (h3 : isR tk s 1 ⟨#[102, 97, 117, 108, 116, 115]⟩ = true) :
  h0u tk s = (.mk 3 ((b0d tk (a0v tk s) 4).1 : Nat) 0 0 (d0v tk (b0d tk (a0v tk s) 4).2).1 [], (d0v tk (b0d tk (a0v tk s) 4).2).2) := by
 unfold h0u; rw [h, h2, h3]; rfl
theorem f1e {tk : List Tk} {s : RS} (h : isR tk s 3 ⟨#[91]⟩ = false) (h2 : isR tk s 1 ⟨#[116, 114, 117, 101]⟩ = false) (h3 : isR tk s 1 ⟨#[102, 97, 117, 108, 116, 115]⟩ = false) :
  h0u tk s = (.mk 1 ((b0d tk s 4).1 : Nat) (((regN (a0p tk (d0z tk (b0d tk s 4).2 3 ⟨#[58]⟩)).2.1).getD 0 : Nat) : Int) 0 (d0v tk (a0v tk (regR tk (d0z tk (b0d tk s 4).2 3 ⟨#[58]⟩)))).1 [], (d0v tk (a0v tk (regR tk (d0z tk (b0d tk s 4).2 3 ⟨#[58]⟩)))).2) := by
 unfold h0u; rw [h, h2, h3]; rfl
theorem j1b (tk : List Tk) (f : Nat) (HE0 : POK tk f 151 .either 3) (HO0 : POK tk f 184 .one 1) : POK tk (f + 1) 184 .one 1 := by
 intro w r n p c x s m h hfw hfu
 have HE := h_ HE0
 have HO := h_ HO0
 have HFW := h_ hfw
 obtain ⟨Y, hY⟩ : ∃ Y, Y = a0e tk (f + 1) .one s m := ⟨_, rfl⟩
 rw [← hY]
 have HY := h_ hY
 have hm := hfw.1
 clear hY hfw HE0 HO0
 have HS1 := h_ (St.start h)
 have HOK := h_ (t0s _ (St.start h).c)
 have hxw := h.lt
 clear h
 go_enter Tryz.func184, Tryz.ntmps184
 go_wp2_with fail
 refine (HOK.out).mono ?_
 rintro e w2 ⟨rfl, hb⟩
 have HS2 := h_ (HS1.out.below hb)
 clear hb HS1 HOK
 cases ho : okR s
 ·have HM := h_ (o0a w2 HS2.out.c (by omega))
  go_wp2_with fail
  refine (HM.out).mono ?_
  rintro e w3 ⟨rfl, hc, hg⟩
  have HS3 := h_ (HS2.out.cat hc hg)
  clear hc hg HS2 HM
  have HOK := h_ (t0s _ HS3.out.c)
  have ho2 : okR (c0z tk s m) = false := by
   have h1 : ¬ s.code = 0 := by simpa [okR] using ho
   simpa [okR] using fun h2 => h1 ((f0v tk s m).code h2)
  rw [ho2] at HOK
  go_wp2_with fail
  refine (HOK.out).mono ?_
  rintro e w4 ⟨rfl, hb⟩
  have HS4 := h_ (HS3.out.below hb)
  clear hb HS3 HOK
  have HP := h_ (show Y = (cF, c0z tk s m, m + 1) from by rw [HY.out]; simp only [a0e]; simp [ho, ho2])
  obtain ⟨⟨z0, z1, z2, z3, z4, z5⟩, y0, y1, y2, y3, y4, y5⟩ := HS4.out.zs
  have hz4 := HS4.out.lt
  go_wp2_with fail
  exact HS4.out.done (j0u _ _ 0 0 0 0 0 (by decide) ⟨by decide, by decide, by decide, by decide⟩) HP.out (fun e W h => h) (fun W hb => results_cell_row rfl _ _ w.heap.size 29 #[.int .i64 0, .int .i64 0, .int .i64 0, .int .u64 0, .int .u64 0, .slice none 0 0] (0, 0) _ rfl hb Tryz.underlying29 rfl (by kernel_rfl)) rfl
 have HI := m0a w2 3 ⟨#[40]⟩ HS2.out.c.2.1
 cases hp : isR tk s 3 ⟨#[40]⟩
 ·rw [hp] at HI
  simp only [Bool.false_eq_true, if_false] at HI
  have HI := h_ HI
  have c0 := HS2.out.c0
  have hx2 := HS2.out.xlt
  go_wp2_with fail
  refine (HI.out).mono ?_
  rintro e w3 ⟨rfl, hr, hg⟩
  have HS3 := h_ (HS2.out.rd hr hg)
  clear hr hg HS2 HI c0 hx2
  have HM := h_ (o0a w3 HS3.out.c (by omega))
  go_wp2_with fail
  refine (HM.out).mono ?_
  rintro e w4 ⟨rfl, hc, hg⟩
  have HS4 := h_ (HS3.out.cat hc hg)
  clear hc hg HS3 HM
  have HOK := h_ (t0s _ HS4.out.c)
  have hfm : Few 66 (c0z tk s m) (m + 1) := k0z (b := 65) hm
  have hmk := (f0v tk s m).k
  have HP := h_ (show (okR (c0z tk s m) = false → Y = (cF, c0z tk s m, m + 1)) ∧ (okR (c0z tk s m) = true → Y = if isR tk (c0z tk s m) 3 ⟨#[126]⟩ then (.mk 6 0 0 0 0 [(a0e tk f .one (a0v tk (c0z tk s m)) (m + 1)).1], (a0e tk f .one (a0v tk (c0z tk s m)) (m + 1)).2.1, (a0e tk f .one (a0v tk (c0z tk s m)) (m + 1)).2.2) else ((h0u tk (c0z tk s m)).1, (h0u tk (c0z tk s m)).2, m + 1)) from ⟨fun e => by rw [HY.out]; simp only [a0e]; simp [ho, hp, e], fun e => by rw [HY.out]; simp only [a0e]; simp [ho, hp, e]⟩)
  generalize c0z tk s m = s1 at *
  cases ho2 : okR s1
  ·rw [ho2] at HOK
   have HP := h_ (HP.out.1 ho2)
   go_wp2_with fail
   refine (HOK.out).mono ?_
   rintro e w5 ⟨rfl, hb⟩
   have HS5 := h_ (HS4.out.below hb)
   clear hb HS4 HOK
   obtain ⟨⟨z0, z1, z2, z3, z4, z5⟩, y0, y1, y2, y3, y4, y5⟩ := HS5.out.zs
   have hz5 := HS5.out.lt
   go_wp2_with fail
   exact HS5.out.done (j0u _ _ 0 0 0 0 0 (by decide) ⟨by decide, by decide, by decide, by decide⟩) HP.out (fun e W h => h) (fun W hb => results_cell_row rfl _ _ w.heap.size 29 #[.int .i64 0, .int .i64 0, .int .i64 0, .int .u64 0, .int .u64 0, .slice none 0 0] (0, 0) _ rfl hb Tryz.underlying29 rfl (by kernel_rfl)) rfl
  rw [ho2] at HOK
  have HP := h_ (HP.out.2 ho2)
  go_wp2_with fail
  refine (HOK.out).mono ?_
  rintro e w5 ⟨rfl, hb⟩
  have HS5 := h_ (HS4.out.below hb)
  clear hb HS4 HOK
  have HI := m0a w5 3 ⟨#[126]⟩ HS5.out.c.2.1
  cases hn : isR tk s1 3 ⟨#[126]⟩
  ·rw [hn] at HI
   simp only [Bool.false_eq_true, if_false] at HI
   have HI := h_ HI
   have c0 := HS5.out.c0
   have hx5 := HS5.out.xlt
   go_wp2_with fail
   refine (HI.out).mono ?_
   rintro e w6 ⟨rfl, hr, hg⟩
   have HS6 := h_ (HS5.out.rd hr hg)
   clear hr hg HS5 HI c0 hx5
   have HP := h_ (show Y = ((h0u tk s1).1, (h0u tk s1).2, m + 1) from by rw [HP.out, hn]; rfl)
   have HI := m0a w6 3 ⟨#[91]⟩ HS6.out.c.2.1
   cases hc : isR tk s1 3 ⟨#[91]⟩
   ·rw [hc] at HI
    simp only [Bool.false_eq_true, if_false] at HI
    have HI := h_ HI
    have c0 := HS6.out.c0
    have hx6 := HS6.out.xlt
    go_wp2_with fail
    refine (HI.out).mono ?_
    rintro e w7 ⟨rfl, hr, hg⟩
    have HS7 := h_ (HS6.out.rd hr hg)
    clear hr hg HS6 HI c0 hx6
    have HI := m0a w7 1 ⟨#[116, 114, 117, 101]⟩ HS7.out.c.2.1
    cases ht : isR tk s1 1 ⟨#[116, 114, 117, 101]⟩
    ·rw [ht] at HI
     simp only [Bool.false_eq_true, if_false] at HI
     have HI := h_ HI
     have c0 := HS7.out.c0
     have hx7 := HS7.out.xlt
     go_wp2_with fail
     refine (HI.out).mono ?_
     rintro e w8 ⟨rfl, hr, hg⟩
     have HS8 := h_ (HS7.out.rd hr hg)
     clear hr hg HS7 HI c0 hx7
     have HI := m0a w8 1 ⟨#[102, 97, 117, 108, 116, 115]⟩ HS8.out.c.2.1
     cases hf : isR tk s1 1 ⟨#[102, 97, 117, 108, 116, 115]⟩
     ·rw [hf] at HI
      simp only [Bool.false_eq_true, if_false] at HI
      have HI := h_ HI
      have c0 := HS8.out.c0
      have hx8 := HS8.out.xlt
      go_wp2_with fail
      refine (HI.out).mono ?_
      rintro e w9 ⟨rfl, hr, hg⟩
      have HS9 := h_ (HS8.out.rd hr hg)
      clear hr hg HS8 HI c0 hx8
      have HL := h_ (f1e hc ht hf)
      have HC := h_ (l0s w9 4 (by decide) (by decide) HS9.out.c.2.1)
      have hsl := i0t tk s1 4 (by decide)
      generalize hsm : b0d tk s1 4 = sm at *
      have HSM := h_ hsm
      clear hsm
      have c0 := HS9.out.c0
      have hx9 := HS9.out.xlt
      go_wp2_with fail
      refine (HC.out).mono ?_
      rintro e w10 ⟨rfl, hr, hg⟩
      have HS10 := h_ (HS9.out.rd hr hg)
      clear hr hg HS9 HC c0 hx9
      have HN := h_ (show Blk (w10.alloc (.cells #[.int .i64 1, .int .i64 (sm.1 : Nat), .int .i64 0, .int .u64 0, .int .u64 0, .slice none 0 0] 29)) 29 w10.heap.size [.int .i64 1, .int .i64 (sm.1 : Nat), .int .i64 0, .int .u64 0, .int .u64 0, .slice none 0 0] from Blk.new _ _ _)
      have HSA := h_ (HS10.out.alloc (.cells #[.int .i64 1, .int .i64 (sm.1 : Nat), .int .i64 0, .int .u64 0, .int .u64 0, .slice none 0 0] 29))
      have HC := h_ (j0n _ 3 ⟨#[58]⟩ HSA.out.c.2.1)
      have hx10 := HS10.out.xlt
      have c0 := HS10.out.c0
      have hl10 := HS10.out.lt
      have hrl := HS10.out.hr
      go_wp2_with fail
      refine (HC.out).mono ?_
      rintro e w11 ⟨rfl, hr, hg⟩
      have HS11 := h_ (HSA.out.rd hr hg)
      have hz11 : w10.heap.size < w11.heap.size := by have := hg.size; simp at this; omega
      have HN11 := h_ (HN.out.kept hg (by intro e; injection e; omega))
      clear hr hg HC HN HSA c0 hx10 HS10
      generalize hs2 : d0z tk sm.2 3 ⟨#[58]⟩ = s2 at *
      have HS2E := h_ hs2
      clear hs2
      have HC := d0t w11 HS11.out.c.2.1
      have HRG := h_ (show ((regN (a0p tk s2).2.1 = none ∨ regN (a0p tk s2).2.1 = some 31 ∨ ¬ (a0p tk s2).1 = 1) → regR tk s2 = e0e tk s2 110) ∧ (¬ (regN (a0p tk s2).2.1 = none ∨ regN (a0p tk s2).2.1 = some 31 ∨ ¬ (a0p tk s2).1 = 1) → regR tk s2 = s2) from ⟨fun e => by unfold regR; rw [if_pos e], fun e => by unfold regR; rw [if_neg e]⟩)
      have HFL := h_ (fun w0 (hw : a0y w0 r n p c tk s2) => e0j w0 110 hw)
      have HPK := h_ (fun w0 (hw : a0y w0 r n p c tk s2) => d0t w0 hw)
      generalize hpk : a0p tk s2 = pk at *
      have HPKE := h_ hpk
      clear hpk
      obtain ⟨k1, k2, k3⟩ := pk
      simp only [tkV] at HC HPK
      have HC := h_ HC
      have hf0 := fun w => m0n k1 k2 k3 w
      have hf1 := fun w => y0v k1 k2 k3 w
      have HNO := d0k k2
      have c0 := HS11.out.c0
      have hx11 := HS11.out.xlt
      go_wp2_with fail
      refine (HC.out).mono ?_
      rintro e w12 ⟨rfl, hb⟩
      have HN12 := h_ (HN11.out.below hb)
      have hz12 : w10.heap.size < w12.heap.size := by have := hb.size; omega
      have HS12 := h_ (HS11.out.below hb)
      clear hb HC HN11 HS11 c0 hx11
      have hj32 := fun j => v0l (s := k2) (j := j)
      generalize hrn : regN k2 = rn at *
      have HNO := h_ (HNO w12)
      go_wp2_with fail
      refine (HNO.out).mono ?_
      rintro e w13 ⟨rfl, m13, hw13⟩
      have HN13 := h_ (hw13 ▸ HN12.out.dn m13)
      have HS13 := h_ (hw13 ▸ HS12.out.below (bd_ (Below.refl _ _) m13))
      have hz13 : w10.heap.size < w13.heap.size := by rw [hw13]; exact hz12
      clear HNO HN12 HS12 hw13
      clear hrn
      cases rn
      ·simp only [n0q]
       have HC := h_ (HFL.out w13 HS13.out.c.2.1)
       have c0 := HS13.out.c0
       have hx13 := HS13.out.xlt
       go_wp2_with fail
       refine (HC.out).mono ?_
       rintro e w14 ⟨rfl, hr, hg⟩
       have HS14 := h_ (HS13.out.rd hr hg)
       have hz14 : w10.heap.size < w14.heap.size := by have := hg.size; omega
       have HN14 := h_ (HN13.out.kept hg (by intro e; injection e; omega))
       clear hr hg HC c0 hx13 HS13 HN13
       have HRR := HRG.out.1 (by simp)
       rw [← HRR] at HS14
       clear HRR
       generalize regR tk s2 = s3 at *
       have HST := h_ (HS14.out.set (b := w10.heap.size) hl10 2 (.int .i64 0))
       have HNT := h_ (show Blk (w14.setCell ⟨w10.heap.size, 2, none⟩ (.int .i64 0)) 29 w10.heap.size [.int .i64 1, .int .i64 (sm.1 : Nat), .int .i64 0, .int .u64 0, .int .u64 0, .slice none 0 0] from by simpa using HN14.out.set 2 (.int .i64 0))
       have HC := h_ (g0q _ HST.out.c.2.1)
       have c0 := HST.out.c0
       have nn2 := HN14.out.cell 2
       have nf2 := HN14.out.free 2
       simp only [gz_, gs_] at nn2
       have hxt := HS14.out.xlt
       have c0' := HS14.out.c0
       go_wp2_with fail
       refine (HC.out).mono ?_
       rintro e w20 ⟨rfl, hr, hg⟩
       have HS20 := h_ (HST.out.rd hr hg)
       have hz20 : w10.heap.size < w20.heap.size := by have := hg.size; simp at this; omega
       have HN20 := h_ (HNT.out.kept hg (by intro e; injection e; omega))
       clear hr hg HC HST HNT c0 nn2 nf2 hxt c0' HS14 HN14
       obtain ⟨n0, n1, n2, n3, n4, n5⟩ := c0d HN20.out
       have HC := i0p w20 1 (sm.1 : Nat) 0 0 0 HS20.out.c
       simp only [s0g] at HC
       have HC := h_ HC
       have hvl := i0q tk (a0v tk s3)
       generalize hvv : d0v tk (a0v tk s3) = vv at *
       clear hvv
       have c0 := HS20.out.c0
       have hx20 := HS20.out.xlt
       go_wp2_with fail
       refine (HC.out).mono ?_
       rintro e w21 ⟨rfl, hc, hg⟩
       have HS21 := h_ (HS20.out.cat hc (G2.ofR hg))
       clear hc hg HS20 HC n0 n1 n2 n3 n4 n5 HN20 c0 hx20
       obtain ⟨⟨z0, z1, z2, z3, z4, z5⟩, y0, y1, y2, y3, y4, y5⟩ := HS21.out.zs
       have hz21 := HS21.out.lt
       go_wp2_with fail
       exact HS21.out.done (j0u _ _ 1 (sm.1 : Nat) 0 0 vv.1 (by decide) ⟨hvl, by decide, ⟨by omega, by omega⟩, ⟨by omega, by omega⟩⟩) (HP.out.trans (by rw [HL.out]; rfl)) (fun e W h => h) (fun W hb => results_cell_row rfl _ _ w.heap.size 29 #[.int .i64 1, .int .i64 (sm.1 : Nat), .int .i64 0, .int .u64 0, .int .u64 vv.1, .slice none 0 0] (0, 0) _ rfl hb Tryz.underlying29 rfl (by kernel_rfl)) rfl
      rename_i j
      have hj32 := hj32 j rfl
      simp only [n0q]
      by_cases hj : j = 31
      ·subst hj
       have HC := h_ (HFL.out w13 HS13.out.c.2.1)
       have c0 := HS13.out.c0
       have hx13 := HS13.out.xlt
       go_wp2_with fail
       refine (HC.out).mono ?_
       rintro e w14 ⟨rfl, hr, hg⟩
       have HS14 := h_ (HS13.out.rd hr hg)
       have hz14 : w10.heap.size < w14.heap.size := by have := hg.size; omega
       have HN14 := h_ (HN13.out.kept hg (by intro e; injection e; omega))
       clear hr hg HC c0 hx13 HS13 HN13
       have HRR := HRG.out.1 (by simp)
       rw [← HRR] at HS14
       clear HRR
       generalize regR tk s2 = s3 at *
       have HST := h_ (HS14.out.set (b := w10.heap.size) hl10 2 (.int .i64 31))
       have HNT := h_ (show Blk (w14.setCell ⟨w10.heap.size, 2, none⟩ (.int .i64 31)) 29 w10.heap.size [.int .i64 1, .int .i64 (sm.1 : Nat), .int .i64 31, .int .u64 0, .int .u64 0, .slice none 0 0] from by simpa using HN14.out.set 2 (.int .i64 31))
       have HC := h_ (g0q _ HST.out.c.2.1)
       have c0 := HST.out.c0
       have nn2 := HN14.out.cell 2
       have nf2 := HN14.out.free 2
       simp only [gz_, gs_] at nn2
       have hxt := HS14.out.xlt
       have c0' := HS14.out.c0
       go_wp2_with fail
       refine (HC.out).mono ?_
       rintro e w20 ⟨rfl, hr, hg⟩
       have HS20 := h_ (HST.out.rd hr hg)
       have hz20 : w10.heap.size < w20.heap.size := by have := hg.size; simp at this; omega
       have HN20 := h_ (HNT.out.kept hg (by intro e; injection e; omega))
       clear hr hg HC HST HNT c0 nn2 nf2 hxt c0' HS14 HN14
       obtain ⟨n0, n1, n2, n3, n4, n5⟩ := c0d HN20.out
       have HC := i0p w20 1 (sm.1 : Nat) 31 0 0 HS20.out.c
       simp only [s0g] at HC
       have HC := h_ HC
       have hvl := i0q tk (a0v tk s3)
       generalize hvv : d0v tk (a0v tk s3) = vv at *
       clear hvv
       have c0 := HS20.out.c0
       have hx20 := HS20.out.xlt
       go_wp2_with fail
       refine (HC.out).mono ?_
       rintro e w21 ⟨rfl, hc, hg⟩
       have HS21 := h_ (HS20.out.cat hc (G2.ofR hg))
       clear hc hg HS20 HC n0 n1 n2 n3 n4 n5 HN20 c0 hx20
       obtain ⟨⟨z0, z1, z2, z3, z4, z5⟩, y0, y1, y2, y3, y4, y5⟩ := HS21.out.zs
       have hz21 := HS21.out.lt
       go_wp2_with fail
       exact HS21.out.done (j0u _ _ 1 (sm.1 : Nat) 31 0 vv.1 (by decide) ⟨hvl, by decide, ⟨by omega, by omega⟩, ⟨by omega, by omega⟩⟩) (HP.out.trans (by rw [HL.out]; rfl)) (fun e W h => h) (fun W hb => results_cell_row rfl _ _ w.heap.size 29 #[.int .i64 1, .int .i64 (sm.1 : Nat), .int .i64 31, .int .u64 0, .int .u64 vv.1, .slice none 0 0] (0, 0) _ rfl hb Tryz.underlying29 rfl (by kernel_rfl)) rfl
      have hjb : ((j : Int) == 31) = false := by rw [beq_eq_false_iff_ne]; omega
      have hji : ¬ (j : Int) = 31 := by omega
      have HC := h_ (HPK.out w13 HS13.out.c.2.1)
      have c0 := HS13.out.c0
      have hx13 := HS13.out.xlt
      go_wp2_with fail
      refine (HC.out).mono ?_
      rintro e w14 ⟨rfl, hb⟩
      have HN14 := h_ (HN13.out.below hb)
      have hz14 : w10.heap.size < w14.heap.size := by have := hb.size; omega
      have HS14 := h_ (HS13.out.below hb)
      clear hb HC HN13 HS13 c0 hx13
      by_cases hk : k1 = 1
      ·subst hk
       have HRR := HRG.out.2 (by simp [hj])
       rw [← HRR] at HS14
       clear HRR
       generalize regR tk s2 = s3 at *
       have HST := h_ (HS14.out.set (b := w10.heap.size) hl10 2 (.int .i64 (j : Nat)))
       have HNT := h_ (show Blk (w14.setCell ⟨w10.heap.size, 2, none⟩ (.int .i64 (j : Nat))) 29 w10.heap.size [.int .i64 1, .int .i64 (sm.1 : Nat), .int .i64 (j : Nat), .int .u64 0, .int .u64 0, .slice none 0 0] from by simpa using HN14.out.set 2 (.int .i64 (j : Nat)))
       have HC := h_ (g0q _ HST.out.c.2.1)
       have c0 := HST.out.c0
       have nn2 := HN14.out.cell 2
       have nf2 := HN14.out.free 2
       simp only [gz_, gs_] at nn2
       have hxt := HS14.out.xlt
       have c0' := HS14.out.c0
       go_wp2_with fail
       refine (HC.out).mono ?_
       rintro e w20 ⟨rfl, hr, hg⟩
       have HS20 := h_ (HST.out.rd hr hg)
       have hz20 : w10.heap.size < w20.heap.size := by have := hg.size; simp at this; omega
       have HN20 := h_ (HNT.out.kept hg (by intro e; injection e; omega))
       clear hr hg HC HST HNT c0 nn2 nf2 hxt c0' HS14 HN14
       obtain ⟨n0, n1, n2, n3, n4, n5⟩ := c0d HN20.out
       have HC := i0p w20 1 (sm.1 : Nat) (j : Nat) 0 0 HS20.out.c
       simp only [s0g] at HC
       have HC := h_ HC
       have hvl := i0q tk (a0v tk s3)
       generalize hvv : d0v tk (a0v tk s3) = vv at *
       clear hvv
       have c0 := HS20.out.c0
       have hx20 := HS20.out.xlt
       go_wp2_with fail
       refine (HC.out).mono ?_
       rintro e w21 ⟨rfl, hc, hg⟩
       have HS21 := h_ (HS20.out.cat hc (G2.ofR hg))
       clear hc hg HS20 HC n0 n1 n2 n3 n4 n5 HN20 c0 hx20
       obtain ⟨⟨z0, z1, z2, z3, z4, z5⟩, y0, y1, y2, y3, y4, y5⟩ := HS21.out.zs
       have hz21 := HS21.out.lt
       go_wp2_with fail
       exact HS21.out.done (j0u _ _ 1 (sm.1 : Nat) (j : Nat) 0 vv.1 (by decide) ⟨hvl, by decide, ⟨by omega, by omega⟩, ⟨by omega, by omega⟩⟩) (HP.out.trans (by rw [HL.out]; rfl)) (fun e W h => h) (fun W hb => results_cell_row rfl _ _ w.heap.size 29 #[.int .i64 1, .int .i64 (sm.1 : Nat), .int .i64 (j : Nat), .int .u64 0, .int .u64 vv.1, .slice none 0 0] (0, 0) _ rfl hb Tryz.underlying29 rfl (by kernel_rfl)) rfl
      have hkb : (k1 == 1) = false := by rw [beq_eq_false_iff_ne]; exact hk
      have hkb2 : (k1 != 1) = true := by rw [bne_iff_ne]; exact hk
      have HC := h_ (HFL.out w14 HS14.out.c.2.1)
      have c0 := HS14.out.c0
      have hx14 := HS14.out.xlt
      go_wp2_with fail
      refine (HC.out).mono ?_
      rintro e w15 ⟨rfl, hr, hg⟩
      have HS15 := h_ (HS14.out.rd hr hg)
      have hz15 : w10.heap.size < w15.heap.size := by have := hg.size; omega
      have HN15 := h_ (HN14.out.kept hg (by intro e; injection e; omega))
      clear hr hg HC c0 hx14 HS14 HN14
      have HRR := HRG.out.1 (.inr (.inr hk))
      rw [← HRR] at HS15
      clear HRR
      generalize regR tk s2 = s3 at *
      have HST := h_ (HS15.out.set (b := w10.heap.size) hl10 2 (.int .i64 (j : Nat)))
      have HNT := h_ (show Blk (w15.setCell ⟨w10.heap.size, 2, none⟩ (.int .i64 (j : Nat))) 29 w10.heap.size [.int .i64 1, .int .i64 (sm.1 : Nat), .int .i64 (j : Nat), .int .u64 0, .int .u64 0, .slice none 0 0] from by simpa using HN15.out.set 2 (.int .i64 (j : Nat)))
      have HC := h_ (g0q _ HST.out.c.2.1)
      have c0 := HST.out.c0
      have nn2 := HN15.out.cell 2
      have nf2 := HN15.out.free 2
      simp only [gz_, gs_] at nn2
      have hxt := HS15.out.xlt
      have c0' := HS15.out.c0
      go_wp2_with fail
      refine (HC.out).mono ?_
      rintro e w20 ⟨rfl, hr, hg⟩
      have HS20 := h_ (HST.out.rd hr hg)
      have hz20 : w10.heap.size < w20.heap.size := by have := hg.size; simp at this; omega
      have HN20 := h_ (HNT.out.kept hg (by intro e; injection e; omega))
      clear hr hg HC HST HNT c0 nn2 nf2 hxt c0' HS15 HN15
      obtain ⟨n0, n1, n2, n3, n4, n5⟩ := c0d HN20.out
      have HC := i0p w20 1 (sm.1 : Nat) (j : Nat) 0 0 HS20.out.c
      simp only [s0g] at HC
      have HC := h_ HC
      have hvl := i0q tk (a0v tk s3)
      generalize hvv : d0v tk (a0v tk s3) = vv at *
      clear hvv
      have c0 := HS20.out.c0
      have hx20 := HS20.out.xlt
      go_wp2_with fail
      refine (HC.out).mono ?_
      rintro e w21 ⟨rfl, hc, hg⟩
      have HS21 := h_ (HS20.out.cat hc (G2.ofR hg))
      clear hc hg HS20 HC n0 n1 n2 n3 n4 n5 HN20 c0 hx20
      obtain ⟨⟨z0, z1, z2, z3, z4, z5⟩, y0, y1, y2, y3, y4, y5⟩ := HS21.out.zs
      have hz21 := HS21.out.lt
      go_wp2_with fail
      exact HS21.out.done (j0u _ _ 1 (sm.1 : Nat) (j : Nat) 0 vv.1 (by decide) ⟨hvl, by decide, ⟨by omega, by omega⟩, ⟨by omega, by omega⟩⟩) (HP.out.trans (by rw [HL.out]; rfl)) (fun e W h => h) (fun W hb => results_cell_row rfl _ _ w.heap.size 29 #[.int .i64 1, .int .i64 (sm.1 : Nat), .int .i64 (j : Nat), .int .u64 0, .int .u64 vv.1, .slice none 0 0] (0, 0) _ rfl hb Tryz.underlying29 rfl (by kernel_rfl)) rfl
     ·rw [hf] at HI
      simp only [if_true] at HI
      have hk_hf := j0q hf (by decide)
      have HI := h_ HI
      have c0 := HS8.out.c0
      have hx8 := HS8.out.xlt
      go_wp2_with fail
      refine (HI.out).mono ?_
      rintro e w9 ⟨rfl, hr, hg⟩
      have HS9 := h_ (HS8.out.rd hr hg)
      clear hr hg HS8 HI c0 hx8
      have HL := h_ (f1f hc ht hf)
      have HC := h_ (l0s w9 4 (by decide) (by decide) HS9.out.c.2.1)
      have hsl := i0t tk (a0v tk s1) 4 (by decide)
      generalize hsm : b0d tk (a0v tk s1) 4 = sm at *
      clear hsm
      have c0 := HS9.out.c0
      have hx9 := HS9.out.xlt
      go_wp2_with fail
      refine (HC.out).mono ?_
      rintro e w10 ⟨rfl, hr, hg⟩
      have HS10 := h_ (HS9.out.rd hr hg)
      clear hr hg HS9 HC c0 hx9
      have HC := i0p w10 3 (sm.1 : Nat) 0 0 0 HS10.out.c
      simp only [s0g] at HC
      have HC := h_ HC
      have hvl := i0q tk sm.2
      generalize hvv : d0v tk sm.2 = vv at *
      clear hvv
      go_wp2_with fail
      refine (HC.out).mono ?_
      rintro e w11 ⟨rfl, hc, hg⟩
      have HS11 := h_ (HS10.out.cat hc (G2.ofR hg))
      clear hc hg HS10 HC
      obtain ⟨⟨z0, z1, z2, z3, z4, z5⟩, y0, y1, y2, y3, y4, y5⟩ := HS11.out.zs
      have hz11 := HS11.out.lt
      go_wp2_with fail
      exact HS11.out.done (j0u _ _ 3 (sm.1 : Nat) 0 0 vv.1 (by decide) ⟨hvl, by decide, ⟨by omega, by omega⟩, by decide⟩) (HP.out.trans (by rw [HL.out])) (fun e W h => h) (fun W hb => results_cell_row rfl _ _ w.heap.size 29 #[.int .i64 3, .int .i64 (sm.1 : Nat), .int .i64 0, .int .u64 0, .int .u64 vv.1, .slice none 0 0] (0, 0) _ rfl hb Tryz.underlying29 rfl (by kernel_rfl)) rfl
    ·rw [ht] at HI
     simp only [if_true] at HI
     have hk_ht := j0q ht (by decide)
     have HI := h_ HI
     have c0 := HS7.out.c0
     have hx7 := HS7.out.xlt
     go_wp2_with fail
     refine (HI.out).mono ?_
     rintro e w8 ⟨rfl, hr, hg⟩
     have HS8 := h_ (HS7.out.rd hr hg)
     clear hr hg HS7 HI c0 hx7
     have HL := h_ (a1f hc ht)
     obtain ⟨⟨z0, z1, z2, z3, z4, z5⟩, y0, y1, y2, y3, y4, y5⟩ := HS8.out.zs
     have hz8 := HS8.out.lt
     go_wp2_with fail
     exact HS8.out.done (j0u _ _ 7 0 0 0 0 (by decide) ⟨by decide, by decide, by decide, by decide⟩) (HP.out.trans (by rw [HL.out])) (fun e W h => h) (fun W hb => results_cell_row rfl _ _ w.heap.size 29 #[.int .i64 7, .int .i64 0, .int .i64 0, .int .u64 0, .int .u64 0, .slice none 0 0] (0, 0) _ rfl hb Tryz.underlying29 rfl (by kernel_rfl)) rfl
   ·rw [hc] at HI
    simp only [if_true] at HI
    have hk_hc := j0q hc (by decide)
    have HI := h_ HI
    have c0 := HS6.out.c0
    have hx6 := HS6.out.xlt
    go_wp2_with fail
    refine (HI.out).mono ?_
    rintro e w7 ⟨rfl, hr, hg⟩
    have HS7 := h_ (HS6.out.rd hr hg)
    clear hr hg HS6 HI c0 hx6
    have HL := h_ (a1g hc)
    have HC := h_ (g0f w7 HS7.out.c.2.1)
    have hal := c0x tk (a0v tk s1)
    generalize hsm : a0c tk (a0v tk s1) = sm at *
    clear hsm
    have c0 := HS7.out.c0
    have hx7 := HS7.out.xlt
    go_wp2_with fail
    refine (HC.out).mono ?_
    rintro e w8 ⟨rfl, hr, hg⟩
    have HS8 := h_ (HS7.out.rd hr hg)
    clear hr hg HS7 HC c0 hx7
    have HN := h_ (show Blk (w8.alloc (.cells #[.int .i64 2, .int .i64 0, .int .i64 0, .int .u64 (sm.1 : Nat), .int .u64 0, .slice none 0 0] 29)) 29 w8.heap.size [.int .i64 2, .int .i64 0, .int .i64 0, .int .u64 (sm.1 : Nat), .int .u64 0, .slice none 0 0] from Blk.new _ _ _)
    have HSA := h_ (HS8.out.alloc (.cells #[.int .i64 2, .int .i64 0, .int .i64 0, .int .u64 (sm.1 : Nat), .int .u64 0, .slice none 0 0] 29))
    have HC := h_ (j0n _ 3 ⟨#[93]⟩ HSA.out.c.2.1)
    have hx8 := HS8.out.xlt
    have c0 := HS8.out.c0
    have hrl := HS8.out.hr
    have hl8 := HS8.out.lt
    go_wp2_with fail
    refine (HC.out).mono ?_
    rintro e w9 ⟨rfl, hr, hg⟩
    have HS9 := h_ (HSA.out.rd hr hg)
    have hz9 : w8.heap.size < w9.heap.size := by have := hg.size; simp at this; omega
    have HN9 := h_ (HN.out.kept hg (by intro e; injection e; omega))
    clear hr hg HC HN HSA c0 hx8 HS8
    obtain ⟨n0, n1, n2, n3, n4, n5⟩ := c0d HN9.out
    have HC := i0p w9 2 0 0 sm.1 0 HS9.out.c
    simp only [s0g] at HC
    have HC := h_ HC
    have hvl := i0q tk (d0z tk sm.2 3 ⟨#[93]⟩)
    generalize hvv : d0v tk (d0z tk sm.2 3 ⟨#[93]⟩) = vv at *
    clear hvv
    go_wp2_with fail
    refine (HC.out).mono ?_
    rintro e w10 ⟨rfl, hc, hg⟩
    have HS10 := h_ (HS9.out.cat hc (G2.ofR hg))
    clear hc hg HS9 HC n0 n1 n2 n3 n4 n5 HN9
    obtain ⟨⟨z0, z1, z2, z3, z4, z5⟩, y0, y1, y2, y3, y4, y5⟩ := HS10.out.zs
    have hz10 := HS10.out.lt
    go_wp2_with fail
    exact HS10.out.done (j0u _ _ 2 0 0 sm.1 vv.1 hal ⟨hvl, by decide, by decide, by decide⟩) (HP.out.trans (by rw [HL.out])) (fun e W h => h) (fun W hb => results_cell_row rfl _ _ w.heap.size 29 #[.int .i64 2, .int .i64 0, .int .i64 0, .int .u64 sm.1, .int .u64 vv.1, .slice none 0 0] (0, 0) _ rfl hb Tryz.underlying29 rfl (by kernel_rfl)) rfl
  ·rw [hn] at HI
   simp only [if_true] at HI
   have hk_hn := j0q hn (by decide)
   have HI := h_ HI
   have c0 := HS5.out.c0
   have hx5 := HS5.out.xlt
   go_wp2_with fail
   refine (HI.out).mono ?_
   rintro e w6 ⟨rfl, hr, hg⟩
   have HS6 := h_ (HS5.out.rd hr hg)
   clear hr hg HS5 HI c0 hx5
   have hrm := HS6.out.room
   have hm64 := q0w hfm ho2
   have HC := h_ (HO.out w6 r n p c x _ (m + 1) HS6.out.c ⟨by omega, fun _ => hm64⟩ (by rw [hk_hn] at *; omega))
   have HP := h_ (HP.out.trans (if_pos hn))
   generalize a0e tk f .one (a0v tk s1) (m + 1) = y at *
   go_wp2_with fail
   refine (HC.out).mono ?_
   rintro e w7 ⟨cs, rfl, ht, hc, hg⟩
   obtain ⟨k1, co1, rg1, ad1, va1, p1, l1, cp1, rfl⟩ := ht.cells
   have hlt6 := HS6.out.lt
   have HT := h_ (ht.sub (S' := fun g => w.heap.size < g) (fun g hg _ => by omega))
   have HS7 := h_ (HS6.out.cat hc hg)
   clear hc hg ht HC HS6
   have hl7 := HS7.out.lt
   have HB := h_ (show Blk (w7.alloc (.cells #[.int .i64 k1, .int .i64 co1, .int .i64 rg1, .int .u64 ad1, .int .u64 va1, .slice p1 l1 cp1] 29)) 29 w7.heap.size (f0p k1 co1 rg1 ad1 va1 (.slice p1 l1 cp1)) from Blk.new _ _ _)
   have HS8 := h_ (HS7.out.alloc (.cells #[.int .i64 k1, .int .i64 co1, .int .i64 rg1, .int .u64 ad1, .int .u64 va1, .slice p1 l1 cp1] 29))
   have HT8 := h_ (HT.out.below (bl_ (Below.refl _ _) (.cells #[.int .i64 k1, .int .i64 co1, .int .i64 rg1, .int .u64 ad1, .int .u64 va1, .slice p1 l1 cp1] 29)))
   obtain ⟨⟨z0, z1, z2, z3, z4, z5⟩, y0, y1, y2, y3, y4, y5⟩ := HS7.out.zs
   go_wp2_with fail
   rw [i0v _ _ hl7]
   exact HS8.out.done (at_one 6 (by decide) (by omega) rfl HB.out HT8.out) HP.out (fun e W h => h) (fun W hb => results_cell_row rfl _ _ w.heap.size 29 #[.int .i64 6, .int .i64 0, .int .i64 0, .int .u64 0, .int .u64 0, .slice (some ⟨w7.heap.size, 0, none⟩) 1 1] (0, 0) _ rfl hb Tryz.underlying29 rfl (by kernel_rfl)) rfl
 ·rw [hp] at HI
  simp only [if_true] at HI
  have hk_hp := j0q hp (by decide)
  have HI := h_ HI
  have c0 := HS2.out.c0
  have hx2 := HS2.out.xlt
  go_wp2_with fail
  refine (HI.out).mono ?_
  rintro e w3 ⟨rfl, hr, hg⟩
  have HS3 := h_ (HS2.out.rd hr hg)
  clear hr hg HS2 HI c0 hx2
  have hrm := HS3.out.room
  have HC := h_ (HE.out w3 r n p c x _ m HS3.out.c (HFW.out.mono (d0l tk s)) (by rw [hk_hp] at *; omega))
  have HP := h_ (show Y = ((a0e tk f .either (a0v tk s) m).1, d0z tk (a0e tk f .either (a0v tk s) m).2.1 3 ⟨#[41]⟩, (a0e tk f .either (a0v tk s) m).2.2) from by rw [HY.out]; simp only [a0e]; simp [ho, hp])
  generalize a0e tk f .either (a0v tk s) m = y at *
  go_wp2_with fail
  refine (HC.out).mono ?_
  rintro e w4 ⟨cs, rfl, ht, hc, hg⟩
  obtain ⟨k1, co1, rg1, ad1, va1, p1, l1, cp1, rfl⟩ := ht.cells
  have hlt3 := HS3.out.lt
  have HT := h_ (ht.sub (S' := fun g => w.heap.size < g) (fun g hg _ => by omega))
  have HS4 := h_ (HS3.out.cat hc hg)
  clear hc hg ht HC HS3
  have hl4 := HS4.out.lt
  have c0 := HS4.out.c0
  have hx4 := HS4.out.xlt
  have hrl := HS4.out.hr
  have HB := h_ (show Blk (w4.alloc (.cells #[.int .i64 k1, .int .i64 co1, .int .i64 rg1, .int .u64 ad1, .int .u64 va1, .slice p1 l1 cp1] 29)) 29 w4.heap.size [.int .i64 k1, .int .i64 co1, .int .i64 rg1, .int .u64 ad1, .int .u64 va1, .slice p1 l1 cp1] from Blk.new _ _ _)
  have HSA := h_ (HS4.out.alloc (.cells #[.int .i64 k1, .int .i64 co1, .int .i64 rg1, .int .u64 ad1, .int .u64 va1, .slice p1 l1 cp1] 29))
  have HTA := h_ (HT.out.below (bl_ (Below.refl _ _) (.cells #[.int .i64 k1, .int .i64 co1, .int .i64 rg1, .int .u64 ad1, .int .u64 va1, .slice p1 l1 cp1] 29)))
  have HC := h_ (j0n _ 3 ⟨#[41]⟩ HSA.out.c.2.1)
  go_wp2_with fail
  refine (HC.out).mono ?_
  rintro e w5 ⟨rfl, hr, hg⟩
  have HS5 := h_ (HSA.out.rd hr hg)
  have hz5 : w4.heap.size < w5.heap.size := by have := hg.size; simp at this; omega
  have HN5 := h_ (HB.out.kept hg (by intro e; injection e; omega))
  have HT5 := h_ (HTA.out.g2 (G2.ofR (x := x) hg) (by omega) (by omega))
  clear hr hg HC HB HSA HTA c0 hx4 HS4 HT
  obtain ⟨n0, n1, n2, n3, n4, n5⟩ := c0d HN5.out
  obtain ⟨⟨z0, z1, z2, z3, z4, z5⟩, y0, y1, y2, y3, y4, y5⟩ := HS5.out.zs
  have hz5 := HS5.out.lt
  go_wp2_with fail
  exact HS5.out.done HT5.out HP.out (fun e W h => h) (fun W hb => results_cell_row rfl _ _ w.heap.size 29 #[.int .i64 k1, .int .i64 co1, .int .i64 rg1, .int .u64 ad1, .int .u64 va1, .slice p1 l1 cp1] (0, 0) _ rfl hb Tryz.underlying29 rfl (by kernel_rfl)) rfl
end
section
open Go.RowKit
structure Lp (w w' : World) (H r n : Nat) (p : Option Addr) (c : Nat) (tk : List Tk) (x : Nat) (s : RS) (m : Nat) (t : CT) (es : List Value) : Prop where
 st : St w w' r n p c tk x s m
 bx : Blk w' 29 H es
 tr : CT.At w' (fun b => w.heap.size < b ∧ b ≠ H) t es
 h3 : w.heap.size < H
section
variable {w w' w'' : World} {H r n : Nat} {p : Option Addr} {c : Nat} {tk : List Tk} {x : Nat} {s s' : RS} {m m' : Nat} {t : CT} {es : List Value}
theorem Lp.g2 (h : Lp w w' H r n p c tk x s m t es) (hs : St w w'' r n p c tk x s' m') (hg : G2 r x w' w'') : Lp w w'' H r n p c tk x s' m' t es := by
 have h1 := h.st.hr
 have h2 := h.st.hx
 have h3 := h.h3
 exact ⟨hs, h.bx.g2 hg (by omega) (by omega), h.tr.g2 hg (by omega) (by omega), h.h3⟩
theorem Lp.below (h : Lp w w' H r n p c tk x s m t es) (hb : Below w'.heap.size w' w'') : Lp w w'' H r n p c tk x s m t es := h.g2 (h.st.below hb) (G2.ofBelow hb)
theorem Lp.rd (h : Lp w w' H r n p c tk x s m t es) (hr : a0y w'' r n p c tk s') (hg : w'.grownBy w'' (some r)) : Lp w w'' H r n p c tk x s' m t es := h.g2 (h.st.rd hr hg) (G2.ofR hg)
theorem Lp.cat (h : Lp w w' H r n p c tk x s m t es) (hc : CAt w'' r n p c tk x s' m') (hg : G2 r x w' w'') : Lp w w'' H r n p c tk x s' m' t es := h.g2 (h.st.cat hc hg) hg
theorem Lp.drew (h : Lp w w' H r n p c tk x s m t es) (k : Nat) : Lp w (w'.drewN k) H r n p c tk x s m t es := h.below (bd_ (Below.refl _ _) k)
theorem St.set6 (h : St w w' r n p c tk x s m) {b : Nat} (hb : w.heap.size < b) (v0 v1 v2 v3 v4 v5 : Value) :
  St w ((((((w'.setCell ⟨b, 0, none⟩ v0).setCell ⟨b, 1, none⟩ v1).setCell ⟨b, 2, none⟩ v2).setCell ⟨b, 3, none⟩ v3).setCell ⟨b, 4, none⟩ v4).setCell ⟨b, 5, none⟩ v5) r n p c tk x s m :=
 (((((h.set hb 0 v0).set hb 1 v1).set hb 2 v2).set hb 3 v3).set hb 4 v4).set hb 5 v5
theorem Lp.join' {W : World} {u : CT} {fs : List Value} {k : Int} (h : Lp w w' H r n p c tk x s m t es) (hu : CT.At w' (fun b => w.heap.size < b ∧ b ≠ H) u fs) (hI : I64 k) (hl : es.length = 6) (hl2 : fs.length = 6)
  (hF : Far H (w'.alloc (.cells (es ++ fs).toArray 29)) W) (hS : St w W r n p c tk x s m) (hB : Blk W 29 H (f0p k 0 0 0 0 (.slice (some ⟨w'.heap.size, 0, none⟩) 2 2))) :
  Lp w W H r n p c tk x s m (.mk k 0 0 0 0 [t, u]) (f0p k 0 0 0 0 (.slice (some ⟨w'.heap.size, 0, none⟩) 2 2)) := by
 have hlt := h.bx.lt
 have hb : Below w'.heap.size w' (w'.alloc (.cells (es ++ fs).toArray 29)) := bl_ (Below.refl w'.heap.size w') _
 have ht2 := h.tr.below hb
 have hn : Blk (w'.alloc (.cells (es ++ fs).toArray 29)) 29 w'.heap.size (es ++ fs) := Blk.new _ _ _
 have hu2 := hu.below hb
 have hk : ∀ (a : Addr) (v : Value), (w.heap.size < a.block ∧ a.block ≠ H) → (w'.alloc (.cells (es ++ fs).toArray 29)).cell? a = some v → W.cell? a = some v := fun a v hS hc => (World.cell?_of_block (hF.block a.block hS.2)).trans hc
 have hgt : w.heap.size < w'.heap.size := h.st.lt
 have hbn : Blk W 29 w'.heap.size (es ++ fs) := (hF.block _ (by omega)).trans hn
 exact ⟨hS, hB, at_two k hI ⟨hgt, by omega⟩ hl hl2 hbn (CT.At.keep hk _ _ ht2) (CT.At.keep hk _ _ hu2), h.h3⟩
theorem Lp.join {u : CT} {fs : List Value} {L : Array Value} {j0 j1 j2 : Int} {j3 j4 : Int} {sl : Value} (k : Int) (hI : I64 k) (h : Lp w w' H r n p c tk x s m t (f0p j0 j1 j2 j3 j4 sl)) (hu : CT.At w' (fun b => w.heap.size < b ∧ b ≠ H) u fs) (hl2 : fs.length = 6) (hL : L = (f0p j0 j1 j2 j3 j4 sl ++ fs).toArray) :
  Lp w (((((((w'.alloc (.cells L 29)).setCell ⟨H, 0, none⟩ (.int .i64 k)).setCell ⟨H, 1, none⟩ (.int .i64 0)).setCell ⟨H, 2, none⟩ (.int .i64 0)).setCell ⟨H, 3, none⟩ (.int .u64 0)).setCell ⟨H, 4, none⟩ (.int .u64 0)).setCell ⟨H, 5, none⟩ (.slice (some ⟨w'.heap.size, 0, none⟩) 2 2)) H r n p c tk x s m (.mk k 0 0 0 0 [t, u]) (f0p k 0 0 0 0 (.slice (some ⟨w'.heap.size, 0, none⟩) 2 2)) := by
 subst hL
 have hbx := h.bx.alloc (.cells (f0p j0 j1 j2 j3 j4 sl ++ fs).toArray 29)
 have hA := h.st.alloc (.cells (f0p j0 j1 j2 j3 j4 sl ++ fs).toArray 29)
 have hj := fun (W : World) hF hS hB => h.join' (W := W) (k := k) hu hI rfl hl2 hF hS hB
 generalize w'.alloc (.cells (f0p j0 j1 j2 j3 j4 sl ++ fs).toArray 29) = V at *
 exact hj _ (((((((Far.refl H V).set 0 (.int .i64 k)).set 1 (.int .i64 0)).set 2 (.int .i64 0)).set 3 (.int .u64 0)).set 4 (.int .u64 0)).set 5 (.slice (some ⟨w'.heap.size, 0, none⟩) 2 2)) (hA.set6 h.h3 _ _ _ _ _ _) (o0g hbx _ _ _ _ _ _)
theorem j1k (h : St w w' r n p c tk x s m) : w'.cell? ⟨r, 1, none⟩ = some (.int .i64 (s.k : Nat)) := h.c.2.1.1.cell 1
end
def j1i (w : World) (r n : Nat) : Nat := n - (intOf ((w.cell? ⟨r, 1, none⟩).getD undef)).toNat
theorem o0b {w : World} {r n k : Nat} (h : w.cell? ⟨r, 1, none⟩ = some (.int .i64 (k : Nat))) : j1i w r n = n - k := by
 unfold j1i
 rw [h]
 simp [intOf]
theorem g1b (tk : List Tk) (f : Nat) (HO0 : ∀ g, g ≤ f → POK tk g 184 .one 1) : POK tk (f + 1) 170 .both 2 := by
 intro w r n p c x s m h hfw hfu
 have HO := h_ HO0
 obtain ⟨Y, hY⟩ : ∃ Y, Y = a0e tk (f + 1) .both s m := ⟨_, rfl⟩
 rw [← hY]
 have HY := h_ hY
 have hm := hfw.1
 clear hY HO0
 have HS1 := h_ (St.start h)
 have HC := h_ (HO.out f (Nat.le_refl _) _ r n p c x s m (St.start h).c hfw (by omega))
 have HP := h_ (show a0e tk f (.bothL (a0e tk f .one s m).1) (a0e tk f .one s m).2.1 (a0e tk f .one s m).2.2 = Y from by rw [HY.out]; rfl)
 have HFW := h_ (d0b tk f .one s m hfw)
 have HMK := h_ (c0r tk f .one s m)
 generalize a0e tk f .one s m = y at *
 have hxw := h.lt
 clear h
 go_enter Tryz.func170, Tryz.ntmps170
 go_wp2_with fail
 refine (HC.out).mono ?_
 rintro e w2 ⟨cs, rfl, ht, hc, hg⟩
 obtain ⟨k1, co1, rg1, ad1, va1, p1, l1, cp1, rfl⟩ := ht.cells
 have HS2 := h_ (HS1.out.cat hc hg)
 have hl2 := HS2.out.lt
 have HL0 := h_ (show Lp w (w2.alloc (.cells #[.int .i64 k1, .int .i64 co1, .int .i64 rg1, .int .u64 ad1, .int .u64 va1, .slice p1 l1 cp1] 29)) w2.heap.size r n p c tk x y.2.1 y.2.2 y.1 (f0p k1 co1 rg1 ad1 va1 (.slice p1 l1 cp1)) from
  ⟨HS2.out.alloc _, Blk.new _ _ _, (ht.sub (S' := fun b => w.heap.size < b ∧ b ≠ w2.heap.size) (fun g hg1 hg2 => ⟨by simp at hg1; omega, by omega⟩)).below (bl_ (Below.refl _ _) _), hl2⟩)
 clear hc hg ht HC HS1 HS2
 generalize hH : w2.heap.size = H at *
 go_wp2_with fail
 go_loopw [] (fun wr => ∃ (g : Nat) (t : CT) (s' : RS) (m' : Nat) (es : List Value), a0e tk g (.bothL t) s' m' = Y ∧ 4 * (n - s'.k) + 1 ≤ g ∧ g ≤ f ∧ Few 66 s' m' ∧ Lp w wr H r n p c tk x s' m' t es) (fun wr => j1i wr r n)
 case atStart => exact ⟨f, y.1, y.2.1, y.2.2, _, HP.out, by have := HMK.out.k; omega, Nat.le_refl _, HFW.out, HL0.out⟩
 case round =>
  obtain ⟨g, t, s', m', es, hg1, hg2, hg3, hg4, hg5⟩ := hrel
  obtain ⟨j0, j1, j2, j3, j4, jp, jl, jc, rfl⟩ := hg5.tr.cells
  have HL := h_ hg5
  have HG1 := h_ hg1
  have HG4 := h_ hg4
  have HOK := h_ (t0s wr hg5.st.c)
  have hc6 := hg4.1
  have hg2' := hg2
  have hg3' := hg3
  clear hg1 hg4 hg5 hg2 hg3
  go_wp2_with fail
  refine (HOK.out).mono ?_
  rintro e w3 ⟨rfl, hb⟩
  have HL3 := h_ (HL.out.below hb)
  clear hb HOK
  obtain ⟨g', rfl⟩ : ∃ g', g = g' + 1 := ⟨g - 1, by omega⟩
  have HI := m0a w3 3 ⟨#[47, 92]⟩ HL3.out.st.c.2.1
  have c0 := HL3.out.st.c0
  have hx3 := HL3.out.st.xlt
  have HND := h_ (fun (h : (okR s' && isR tk s' 3 ⟨#[47, 92]⟩) = false) => show Y = (t, s', m') from by rw [← HG1.out]; simp only [a0e]; rw [h]; rfl)
  cases ho : okR s'
  ·have hP := HND.out (by rw [ho]; rfl)
   obtain ⟨⟨z0, z1, z2, z3, z4, z5⟩, y0, y1, y2, y3, y4, y5⟩ := HL3.out.st.zs
   have hz3 := HL3.out.st.lt
   obtain ⟨a0, a1, a2, a3, a4, a5⟩ := c0d HL3.out.bx
   go_wp2_with fail
   exact HL3.out.st.done (HL3.out.tr.sub (fun g hg _ => hg.1)) hP (fun e W h => h) (fun W hb => results_cell_row rfl _ _ w.heap.size 29 #[.int .i64 j0, .int .i64 j1, .int .i64 j2, .int .u64 j3, .int .u64 j4, .slice jp jl jc] (0, 0) _ rfl hb Tryz.underlying29 rfl (by kernel_rfl)) rfl
  cases hi : isR tk s' 3 ⟨#[47, 92]⟩
  ·have hP := HND.out (by rw [ho, hi]; rfl)
   rw [hi] at HI
   simp only [Bool.false_eq_true, if_false] at HI
   have HI := h_ HI
   go_wp2_with fail
   refine (HI.out).mono ?_
   rintro e w4 ⟨rfl, hr, hg⟩
   have HL4 := h_ (HL3.out.rd hr hg)
   clear hr hg HI HL3 c0 hx3
   obtain ⟨⟨z0, z1, z2, z3, z4, z5⟩, y0, y1, y2, y3, y4, y5⟩ := HL4.out.st.zs
   have hz3 := HL4.out.st.lt
   obtain ⟨a0, a1, a2, a3, a4, a5⟩ := c0d HL4.out.bx
   go_wp2_with fail
   exact HL4.out.st.done (HL4.out.tr.sub (fun g hg _ => hg.1)) hP (fun e W h => h) (fun W hb => results_cell_row rfl _ _ w.heap.size 29 #[.int .i64 j0, .int .i64 j1, .int .i64 j2, .int .u64 j3, .int .u64 j4, .slice jp jl jc] (0, 0) _ rfl hb Tryz.underlying29 rfl (by kernel_rfl)) rfl
  ·have hk1 := j0q hi (by decide)
   rw [hi] at HI
   simp only [if_true] at HI
   have HI := h_ HI
   have HY2 := h_ (show a0e tk g' (.bothL (.mk 4 0 0 0 0 [t, (a0e tk g' .one (c0z tk (a0v tk s') m') (m' + 1)).1])) (a0e tk g' .one (c0z tk (a0v tk s') m') (m' + 1)).2.1 (a0e tk g' .one (c0z tk (a0v tk s') m') (m' + 1)).2.2 = Y from by rw [← HG1.out]; simp only [a0e]; rw [ho, hi]; rfl)
   have hm64 := q0w HG4.out ho
   have c1 := j1k HL.out.st
   go_wp2_with fail
   refine (HI.out).mono ?_
   rintro e w4 ⟨rfl, hr, hg⟩
   have HL4 := h_ (HL3.out.rd hr hg)
   clear hr hg HI HL3 c0 hx3
   have HM := h_ (o0a w4 HL4.out.st.c (by omega))
   have hrm := HL4.out.st.room
   go_wp2_with fail
   refine (HM.out).mono ?_
   rintro e w5 ⟨rfl, hc, hg⟩
   have HL5 := h_ (HL4.out.cat hc hg)
   clear hc hg HM HL4
   have hmk := (f0v tk (a0v tk s') m').k
   have HF5 := h_ (k0z (tk := tk) (s := a0v tk s') (b := 64) hm64)
   have HC := h_ (HO.out g' (by omega) w5.drew r n p c x _ (m' + 1) (HL5.out.drew 1).st.c HF5.out (by rw [hk1] at hmk hrm; omega))
   have HFW2 := h_ (d0b tk g' .one _ _ HF5.out)
   have HMK2 := h_ (c0r tk g' .one (c0z tk (a0v tk s') m') (m' + 1))
   generalize a0e tk g' .one (c0z tk (a0v tk s') m') (m' + 1) = z at *
   obtain ⟨a0, a1, a2, a3, a4, a5⟩ := c0d HL5.out.bx
   have hl5 := HL5.out.st.lt
   go_wp2_with fail
   go_region_with (first | (go_at_call 184; refine (HC.out).mono ?_; rintro e w6 ⟨cs, rfl, ht, hc, hg⟩; obtain ⟨k2, co2, rg2, ad2, va2, p2, l2, cp2, rfl⟩ := ht.cells; have HL6 := h_ ((HL5.out.drew 1).cat hc hg); have HT6 := h_ (ht.sub (S' := fun b => w.heap.size < b ∧ b ≠ H) (fun g hg1 hg2 => ⟨by simp at hg1; omega, by have := HL5.out.bx.lt; simp at hg1; omega⟩)); clear ht hc hg; obtain ⟨b0, b1, b2, b3, b4, b5⟩ := c0d HL6.out.bx; have hH6 := HL6.out.bx.lt; have q0 := HL6.out.bx.free 0; have q1 := HL6.out.bx.free 1; have q2 := HL6.out.bx.free 2; have q3 := HL6.out.bx.free 3; have q4 := HL6.out.bx.free 4; have q5 := HL6.out.bx.free 5))
   all_goals (
    have hz1 := HMK2.out.k
    have hz2 := HL6.out.st.room
    go_wp2_with fail
    go_roundw
    case rel => exact ⟨g', _, z.2.1, z.2.2, _, HY2.out, by rw [hk1] at hmk; omega, by omega, HFW2.out, by rw [i0v _ _ hH6]; exact HL6.out.join 4 (by decide) HT6.out rfl rfl⟩
    case measure =>
     rw [o0b c1, o0b (k := z.2.1.k) (by rw [i0v _ _ hH6]; exact j1k (HL6.out.join 4 (by decide) HT6.out rfl rfl).st)]
     rw [hk1] at hmk
     omega)
theorem w0k (tk : List Tk) (f : Nat) (HO0 : ∀ g, g ≤ f → POK tk g 170 .both 2) : POK tk (f + 1) 151 .either 3 := by
 intro w r n p c x s m h hfw hfu
 have HO := h_ HO0
 obtain ⟨Y, hY⟩ : ∃ Y, Y = a0e tk (f + 1) .either s m := ⟨_, rfl⟩
 rw [← hY]
 have HY := h_ hY
 have hm := hfw.1
 clear hY HO0
 have HS1 := h_ (St.start h)
 have HC := h_ (HO.out f (Nat.le_refl _) _ r n p c x s m (St.start h).c hfw (by omega))
 have HP := h_ (show a0e tk f (.eitherL (a0e tk f .both s m).1) (a0e tk f .both s m).2.1 (a0e tk f .both s m).2.2 = Y from by rw [HY.out]; rfl)
 have HFW := h_ (d0b tk f .both s m hfw)
 have HMK := h_ (c0r tk f .both s m)
 generalize a0e tk f .both s m = y at *
 have hxw := h.lt
 clear h
 go_enter Tryz.func151, Tryz.ntmps151
 go_wp2_with fail
 refine (HC.out).mono ?_
 rintro e w2 ⟨cs, rfl, ht, hc, hg⟩
 obtain ⟨k1, co1, rg1, ad1, va1, p1, l1, cp1, rfl⟩ := ht.cells
 have HS2 := h_ (HS1.out.cat hc hg)
 have hl2 := HS2.out.lt
 have HL0 := h_ (show Lp w (w2.alloc (.cells #[.int .i64 k1, .int .i64 co1, .int .i64 rg1, .int .u64 ad1, .int .u64 va1, .slice p1 l1 cp1] 29)) w2.heap.size r n p c tk x y.2.1 y.2.2 y.1 (f0p k1 co1 rg1 ad1 va1 (.slice p1 l1 cp1)) from
  ⟨HS2.out.alloc _, Blk.new _ _ _, (ht.sub (S' := fun b => w.heap.size < b ∧ b ≠ w2.heap.size) (fun g hg1 hg2 => ⟨by simp at hg1; omega, by omega⟩)).below (bl_ (Below.refl _ _) _), hl2⟩)
 clear hc hg ht HC HS1 HS2
 generalize hH : w2.heap.size = H at *
 go_wp2_with fail
 go_loopw [] (fun wr => ∃ (g : Nat) (t : CT) (s' : RS) (m' : Nat) (es : List Value), a0e tk g (.eitherL t) s' m' = Y ∧ 4 * (n - s'.k) + 1 ≤ g ∧ g ≤ f ∧ Few 66 s' m' ∧ Lp w wr H r n p c tk x s' m' t es) (fun wr => j1i wr r n)
 case atStart => exact ⟨f, y.1, y.2.1, y.2.2, _, HP.out, by have := HMK.out.k; omega, Nat.le_refl _, HFW.out, HL0.out⟩
 case round =>
  obtain ⟨g, t, s', m', es, hg1, hg2, hg3, hg4, hg5⟩ := hrel
  obtain ⟨j0, j1, j2, j3, j4, jp, jl, jc, rfl⟩ := hg5.tr.cells
  have HL := h_ hg5
  have HG1 := h_ hg1
  have HG4 := h_ hg4
  have HOK := h_ (t0s wr hg5.st.c)
  have hc6 := hg4.1
  have hg2' := hg2
  have hg3' := hg3
  clear hg1 hg4 hg5 hg2 hg3
  go_wp2_with fail
  refine (HOK.out).mono ?_
  rintro e w3 ⟨rfl, hb⟩
  have HL3 := h_ (HL.out.below hb)
  clear hb HOK
  obtain ⟨g', rfl⟩ : ∃ g', g = g' + 1 := ⟨g - 1, by omega⟩
  have HI := m0a w3 3 ⟨#[92, 47]⟩ HL3.out.st.c.2.1
  have c0 := HL3.out.st.c0
  have hx3 := HL3.out.st.xlt
  have HND := h_ (fun (h : (okR s' && isR tk s' 3 ⟨#[92, 47]⟩) = false) => show Y = (t, s', m') from by rw [← HG1.out]; simp only [a0e]; rw [h]; rfl)
  cases ho : okR s'
  ·have hP := HND.out (by rw [ho]; rfl)
   obtain ⟨⟨z0, z1, z2, z3, z4, z5⟩, y0, y1, y2, y3, y4, y5⟩ := HL3.out.st.zs
   have hz3 := HL3.out.st.lt
   obtain ⟨a0, a1, a2, a3, a4, a5⟩ := c0d HL3.out.bx
   go_wp2_with fail
   exact HL3.out.st.done (HL3.out.tr.sub (fun g hg _ => hg.1)) hP (fun e W h => h) (fun W hb => results_cell_row rfl _ _ w.heap.size 29 #[.int .i64 j0, .int .i64 j1, .int .i64 j2, .int .u64 j3, .int .u64 j4, .slice jp jl jc] (0, 0) _ rfl hb Tryz.underlying29 rfl (by kernel_rfl)) rfl
  cases hi : isR tk s' 3 ⟨#[92, 47]⟩
  ·have hP := HND.out (by rw [ho, hi]; rfl)
   rw [hi] at HI
   simp only [Bool.false_eq_true, if_false] at HI
   have HI := h_ HI
   go_wp2_with fail
   refine (HI.out).mono ?_
   rintro e w4 ⟨rfl, hr, hg⟩
   have HL4 := h_ (HL3.out.rd hr hg)
   clear hr hg HI HL3 c0 hx3
   obtain ⟨⟨z0, z1, z2, z3, z4, z5⟩, y0, y1, y2, y3, y4, y5⟩ := HL4.out.st.zs
   have hz3 := HL4.out.st.lt
   obtain ⟨a0, a1, a2, a3, a4, a5⟩ := c0d HL4.out.bx
   go_wp2_with fail
   exact HL4.out.st.done (HL4.out.tr.sub (fun g hg _ => hg.1)) hP (fun e W h => h) (fun W hb => results_cell_row rfl _ _ w.heap.size 29 #[.int .i64 j0, .int .i64 j1, .int .i64 j2, .int .u64 j3, .int .u64 j4, .slice jp jl jc] (0, 0) _ rfl hb Tryz.underlying29 rfl (by kernel_rfl)) rfl
  ·have hk1 := j0q hi (by decide)
   rw [hi] at HI
   simp only [if_true] at HI
   have HI := h_ HI
   have HY2 := h_ (show a0e tk g' (.eitherL (.mk 5 0 0 0 0 [t, (a0e tk g' .both (c0z tk (a0v tk s') m') (m' + 1)).1])) (a0e tk g' .both (c0z tk (a0v tk s') m') (m' + 1)).2.1 (a0e tk g' .both (c0z tk (a0v tk s') m') (m' + 1)).2.2 = Y from by rw [← HG1.out]; simp only [a0e]; rw [ho, hi]; rfl)
   have hm64 := q0w HG4.out ho
   have c1 := j1k HL.out.st
   go_wp2_with fail
   refine (HI.out).mono ?_
   rintro e w4 ⟨rfl, hr, hg⟩
   have HL4 := h_ (HL3.out.rd hr hg)
   clear hr hg HI HL3 c0 hx3
   have HM := h_ (o0a w4 HL4.out.st.c (by omega))
   have hrm := HL4.out.st.room
   go_wp2_with fail
   refine (HM.out).mono ?_
   rintro e w5 ⟨rfl, hc, hg⟩
   have HL5 := h_ (HL4.out.cat hc hg)
   clear hc hg HM HL4
   have hmk := (f0v tk (a0v tk s') m').k
   have HF5 := h_ (k0z (tk := tk) (s := a0v tk s') (b := 64) hm64)
   have HC := h_ (HO.out g' (by omega) w5.drew r n p c x _ (m' + 1) (HL5.out.drew 1).st.c HF5.out (by rw [hk1] at hmk hrm; omega))
   have HFW2 := h_ (d0b tk g' .both _ _ HF5.out)
   have HMK2 := h_ (c0r tk g' .both (c0z tk (a0v tk s') m') (m' + 1))
   generalize a0e tk g' .both (c0z tk (a0v tk s') m') (m' + 1) = z at *
   obtain ⟨a0, a1, a2, a3, a4, a5⟩ := c0d HL5.out.bx
   have hl5 := HL5.out.st.lt
   go_wp2_with fail
   go_region_with (first | (go_at_call 170; refine (HC.out).mono ?_; rintro e w6 ⟨cs, rfl, ht, hc, hg⟩; obtain ⟨k2, co2, rg2, ad2, va2, p2, l2, cp2, rfl⟩ := ht.cells; have HL6 := h_ ((HL5.out.drew 1).cat hc hg); have HT6 := h_ (ht.sub (S' := fun b => w.heap.size < b ∧ b ≠ H) (fun g hg1 hg2 => ⟨by simp at hg1; omega, by have := HL5.out.bx.lt; simp at hg1; omega⟩)); clear ht hc hg; obtain ⟨b0, b1, b2, b3, b4, b5⟩ := c0d HL6.out.bx; have hH6 := HL6.out.bx.lt; have q0 := HL6.out.bx.free 0; have q1 := HL6.out.bx.free 1; have q2 := HL6.out.bx.free 2; have q3 := HL6.out.bx.free 3; have q4 := HL6.out.bx.free 4; have q5 := HL6.out.bx.free 5))
   all_goals (
    have hz1 := HMK2.out.k
    have hz2 := HL6.out.st.room
    go_wp2_with fail
    go_roundw
    case rel => exact ⟨g', _, z.2.1, z.2.2, _, HY2.out, by rw [hk1] at hmk; omega, by omega, HFW2.out, by rw [i0v _ _ hH6]; exact HL6.out.join 5 (by decide) HT6.out rfl rfl⟩
    case measure =>
     rw [o0b c1, o0b (k := z.2.1.k) (by rw [i0v _ _ hH6]; exact j1k (HL6.out.join 5 (by decide) HT6.out rfl rfl).st)]
     rw [hk1] at hmk
     omega)
theorem e1c (tk : List Tk) : ∀ (f : Nat), POK tk f 184 .one 1 ∧ POK tk f 170 .both 2 ∧ POK tk f 151 .either 3
 | 0 => by
  refine ⟨?_, ?_, ?_⟩ <;> (intro w r n p c x s m _ _ h; omega)
 | f + 1 => by
  have hall : ∀ g, g ≤ f → POK tk g 184 .one 1 ∧ POK tk g 170 .both 2 ∧ POK tk g 151 .either 3 := fun g hg => e1c tk g
  exact ⟨j1b tk f (hall f (Nat.le_refl _)).2.2 (hall f (Nat.le_refl _)).1, g1b tk f (fun g hg => (hall g hg).1), w0k tk f (fun g hg => (hall g hg).2.1)⟩
termination_by f => f
decreasing_by omega
end
end Go.Proofs.YtmnojnopejhebaaGreat
