/- strings.IndexAny at a text's parts: the shelf's contracts laid at this program. -/
import Derived.Test.YtmnojnopejhebaaGreatMgaa
import Derived.Test.YtmnojnopejhebaaGreatMgai
import Derived.Test.YtmnojnopejhebaaGreatMgaj
import Derived.Test.YtmnojnopejhebaaGreatMgal
import Derived.Test.YtmnojnopejhebaaGreatRows
import Derived.Shelf.Strings.IndexAnyAll
import Derived.Laws.RangeAny
namespace Go.Proofs.YtmnojnopejhebaaGreat
set_option linter.unusedVariables false
set_option linter.unusedSimpArgs false
set_option maxRecDepth 100000
set_option maxHeartbeats 25600000
section
open Go.RowKit
section
variable {pT pP pr pc ph : Option Addr} {cT cP cr cc ch : Nat} {tabs : List Nat} {at_ : Int} {q : List Int} {regs : List Nat} {space : Int} {table : Nat} {code hand : List Ins} {z : Int}
theorem x0m (w : World) (hz : z = (table : Nat)) (hP : Rds w 1 pP q.length (q.map i64V)) (hp : q.length ≤ maxLen) (hT : Rds w 1 pT tabs.length (tabs.map u64V)) (hc : Rds w 6 pc code.length (insL code)) (hh : Rds w 6 ph hand.length (insL hand)) (ht : tabs.length ≤ 20000) (h1 : code.length ≤ 20000 ∧ hand.length ≤ 20000 ∧ regs.length ≤ 20000) (h3 : table < 18446744073709551616) :
  Calls Tryz.prog 43 #[.agg #[.slice pr regs.length cr, .int .i64 space, .int .u64 z, .slice pc code.length cc, .slice ph hand.length ch], .slice pT tabs.length cT, .int .i64 at_, .slice pP q.length cP] w fun e w' => e = .returned (.agg #[.int .i64 (d0p tabs ⟨regs, space, table, code, hand⟩ at_ q).1, .int .i64 (d0p tabs ⟨regs, space, table, code, hand⟩ at_ q).2]) ∧ Below w.heap.size w w' := by
 subst hz
 exact e1f w (c := ⟨regs, space, table, code, hand⟩) hT hP hc hh ht hp h1.1 h1.2.1 h3
theorem e1e (w : World) (hz : z = (table : Nat)) (hq : q = []) (hT : Rds w 1 pT tabs.length (tabs.map u64V)) (hc : Rds w 6 pc code.length (insL code)) (hh : Rds w 6 ph hand.length (insL hand)) (ht : tabs.length ≤ 20000) (h1 : code.length ≤ 20000 ∧ hand.length ≤ 20000 ∧ regs.length ≤ 20000) (h3 : table < 18446744073709551616) :
  Calls Tryz.prog 43 #[.agg #[.slice pr regs.length cr, .int .i64 space, .int .u64 z, .slice pc code.length cc, .slice ph hand.length ch], .slice pT tabs.length cT, .int .i64 at_, .slice none 0 0] w fun e w' => e = .returned (.agg #[.int .i64 (d0p tabs ⟨regs, space, table, code, hand⟩ at_ q).1, .int .i64 (d0p tabs ⟨regs, space, table, code, hand⟩ at_ q).2]) ∧ Below w.heap.size w w' := by
 subst hq
 exact x0m w (pP := none) (cP := 0) (q := []) hz ⟨rfl, fun h => absurd h (by simp)⟩ (by simp) hT hc hh ht h1 h3
end
theorem GRd.insAt {w : World} {x : GSrc} {v : SrcV} (h : GRd w x v) {p : Option Addr} {c : Nat} (hv : v.vPI = .slice p x.pI.length c) {k : Nat} (hk : k < x.pI.length) : ∃ (g off : Nat) (pq : Option Addr) (cq : Nat), p = some ⟨g, off, none⟩ ∧ w.cell? ⟨g, off + k, none⟩ = some (.slice pq (x.pI.getD k []).length cq) ∧ Rds w 1 pq (x.pI.getD k []).length ((x.pI.getD k []).map i64V) ∧ (x.pI.getD k []).length ≤ maxLen := by
 obtain ⟨p', c', hv', hr, _⟩ := h.pI
 rw [hv] at hv'
 injection hv' with e1 _ _
 subst e1
 obtain ⟨g, off, hp, hc⟩ := hr.2 (by omega)
 have hk' : k < v.ivs.length := by rw [h.leni]; exact hk
 obtain ⟨pq, cq, hq, hrq, _⟩ := h.ins k hk hk'
 have e : x.pI.getD k [] = x.pI[k] := by simp [List.getD, List.getElem?_eq_getElem hk]
 rw [e]
 exact ⟨g, off, pq, cq, hp, (hc k (by omega)).trans (by rw [List.getElem?_eq_getElem hk', hq]), hrq, h.sizes.ins _ (List.getElem_mem hk)⟩
theorem q0n (w : World) {x : GSrc} {v : SrcV} (h : GRd w x v) :
  Calls Tryz.prog 15 #[.agg (i0f x v).toArray] w fun e w' => e = .returned (.agg #[.int .i64 (b0y x).1, .int .i64 (b0y x).2]) ∧ Below w.heap.size w w' := by
 obtain ⟨p1, c1, e1, R1, _⟩ := h.tables
 obtain ⟨p2, c2, e2, R2, _⟩ := h.cores
 obtain ⟨p3, c3, e3, R3, _⟩ := h.pCo
 obtain ⟨p4, c4, e4, R4, _⟩ := h.pI
 have HS := h_ h.sizes
 have HB1 := h_ (show Below w.heap.size w ((w.alloc (.cells (i0f x v).toArray 38)).alloc (.cells #[.int .i64 0, .int .i64 0] 41)) from bl_ (bl_ (Below.refl _ _) _) _)
 have HG := h_ (h.below HB1.out)
 have HM := h_ (show Blk ((w.alloc (.cells (i0f x v).toArray 38)).alloc (.cells #[.int .i64 0, .int .i64 0] 41)) 38 w.heap.size (i0f x v) from (Blk.new w _ _).alloc _)
 have HN := h_ (show Blk ((w.alloc (.cells (i0f x v).toArray 38)).alloc (.cells #[.int .i64 0, .int .i64 0] 41)) 41 (w.heap.size + 1) [.int .i64 0, .int .i64 0] from by simpa using Blk.new (w.alloc (.cells (i0f x v).toArray 38)) 41 [.int .i64 0, .int .i64 0])
 have HT := h_ (show ∀ a : Int × Int, b0y x = a → Ending.returned (.agg #[.int .i64 a.1, .int .i64 a.2]) = Ending.returned (.agg #[.int .i64 (b0y x).1, .int .i64 (b0y x).2]) from fun a e => by rw [e])
 have HP3 := h_ (fun (w2 : World) (hb : Below _ _ w2) => (R3.below HB1.out).below hb)
 have HTR := h_ (fun (w2 : World) (hb : Below _ _ w2) => (R1.below HB1.out).below hb)
 clear R1 R2 R3 R4 h
 obtain ⟨nm, cells, cores, fa, cond, tables, pT, pC, pCo, pI, pCond⟩ := x
 obtain ⟨vC, vCo, k0, k1, k2, k3, k4, k5, vT, vPT, vPC, vPCo, vPI, cvs, ivs⟩ := v
 dsimp only at e1 e2 e3 e4 HS HG HT HP3 HTR ⊢
 subst e1 e2 e3 e4
 have HTab := h_ (fun w2 (h : GRd w2 ⟨nm, cells, cores, fa, cond, tables, pT, pC, pCo, pI, pCond⟩ ⟨vC, .slice p2 cores.length c2, k0, k1, k2, k3, k4, k5, .slice p1 tables.length c1, vPT, vPC, .slice p3 pCo.length c3, .slice p4 pI.length c4, cvs, ivs⟩) => @v0q w2 ⟨nm, cells, cores, fa, cond, tables, pT, pC, pCo, pI, pCond⟩ ⟨vC, .slice p2 cores.length c2, k0, k1, k2, k3, k4, k5, .slice p1 tables.length c1, vPT, vPC, .slice p3 pCo.length c3, .slice p4 pI.length c4, cvs, ivs⟩ h)
 have HCel := h_ (fun w2 (h : GRd w2 ⟨nm, cells, cores, fa, cond, tables, pT, pC, pCo, pI, pCond⟩ ⟨vC, .slice p2 cores.length c2, k0, k1, k2, k3, k4, k5, .slice p1 tables.length c1, vPT, vPC, .slice p3 pCo.length c3, .slice p4 pI.length c4, cvs, ivs⟩) => @z0o w2 ⟨nm, cells, cores, fa, cond, tables, pT, pC, pCo, pI, pCond⟩ ⟨vC, .slice p2 cores.length c2, k0, k1, k2, k3, k4, k5, .slice p1 tables.length c1, vPT, vPC, .slice p3 pCo.length c3, .slice p4 pI.length c4, cvs, ivs⟩ h)
 unfold i0f at *
 dsimp only at HM HN HB1 HG HTab HCel HP3 HTR ⊢
 go_enter Tryz.func15, Tryz.ntmps15
 have hb0 := HM.out.lt
 have m0 := HM.out.cell 0
 have m1 := HM.out.cell 1
 have m2 := HM.out.cell 2
 have m3 := HM.out.cell 3
 have m4 := HM.out.cell 4
 have m5 := HM.out.cell 5
 have m6 := HM.out.cell 6
 have m7 := HM.out.cell 7
 have m8 := HM.out.cell 8
 have m9 := HM.out.cell 9
 have m10 := HM.out.cell 10
 have m11 := HM.out.cell 11
 have m12 := HM.out.cell 12
 have m13 := HM.out.cell 13
 have m14 := HM.out.cell 14
 have m15 := HM.out.cell 15
 simp only [gz_, gs_] at m0 m1 m2 m3 m4 m5 m6 m7 m8 m9 m10 m11 m12 m13 m14 m15
 go_wp2_with fail
 generalize ((w.alloc (.cells #[.string nm, vC, .slice p2 cores.length c2, .bool fa, k0, k1, k2, k3, k4, k5, .slice p1 tables.length c1, vPT, vPC, .slice p3 pCo.length c3, .slice p4 pI.length c4, .int .i64 pCond] 38)).alloc (.cells #[.int .i64 0, .int .i64 0] 41)) = w1 at *
 clear hb0 m0 m1 m2 m3 m4 m5 m6 m7 m8 m9 m10 m11 m12 m13 m14 m15
 refine (HTab.out _ HG.out).mono ?_
 rintro e w2 ⟨rfl, hb⟩
 have HB2 := h_ (show Below w1.heap.size w1 w2 from hb)
 have HX := h_ (show ∀ a : Int × Int, b0g pT [] tables = a → ¬ a.1 = 0 → b0y ⟨nm, cells, cores, fa, cond, tables, pT, pC, pCo, pI, pCond⟩ = a from fun a e h => by
  unfold b0y
  dsimp only
  rw [e, if_pos h])
 generalize hA : b0g pT [] tables = A at *
 obtain ⟨ta, tb⟩ := A
 have HA := h_ hA
 clear hA hb
 have HM3 := h_ ((HM.out.below HB2.out).alloc (.cells #[.int .i64 ta, .int .i64 tb] 41))
 have HN3 := h_ ((HN.out.below HB2.out).alloc (.cells #[.int .i64 ta, .int .i64 tb] 41))
 have HD3 := h_ (Blk.new w2 41 [.int .i64 ta, .int .i64 tb])
 have HB3 := h_ (show Below w1.heap.size w1 (w2.alloc (.cells #[.int .i64 ta, .int .i64 tb] 41)) from bl_ HB2.out _)
 dsimp only [List.toArray] at HD3
 have hb1 := HN3.out.lt
 have hb2 := HD3.out.lt
 have n0 := HN3.out.cell 0
 have n1 := HN3.out.cell 1
 have f0 := HN3.out.free 0
 have f1 := HN3.out.free 1
 have d0 := HD3.out.cell 0
 have d1 := HD3.out.cell 1
 simp only [gz_, gs_] at n0 n1 d0 d1
 by_cases hta : ta = 0
 ·subst hta
  have HA0 := h_ (show (b0g pT [] tables).1 = 0 by rw [HA.out])
  clear n0 n1 f0 f1 d1
  have m0 := HM3.out.cell 0
  have m1 := HM3.out.cell 1
  have m2 := HM3.out.cell 2
  have m3 := HM3.out.cell 3
  have m4 := HM3.out.cell 4
  have m5 := HM3.out.cell 5
  have m6 := HM3.out.cell 6
  have m7 := HM3.out.cell 7
  have m8 := HM3.out.cell 8
  have m9 := HM3.out.cell 9
  have m10 := HM3.out.cell 10
  have m11 := HM3.out.cell 11
  have m12 := HM3.out.cell 12
  have m13 := HM3.out.cell 13
  have m14 := HM3.out.cell 14
  have m15 := HM3.out.cell 15
  simp only [gz_, gs_] at m0 m1 m2 m3 m4 m5 m6 m7 m8 m9 m10 m11 m12 m13 m14 m15
  have hb0 := HM3.out.lt
  go_wp2_with fail
  clear m0 m1 m2 m3 m4 m5 m6 m7 m8 m9 m10 m11 m12 m13 m14 m15 d0 hb0 hb1 hb2
  have HG3 := h_ (HG.out.below HB3.out)
  generalize w2.alloc (.cells #[.int .i64 0, .int .i64 tb] 41) = w3 at *
  refine (HCel.out _ HG3.out).mono ?_
  rintro e w4 ⟨rfl, hb⟩
  have HB4 := h_ (bt_ HB3.out hb)
  clear hb
  have HM5 := h_ ((HM.out.below HB4.out).alloc (.cells #[.int .i64 (d0n ⟨nm, cells, cores, fa, cond, tables, pT, pC, pCo, pI, pCond⟩).1, .int .i64 (d0n ⟨nm, cells, cores, fa, cond, tables, pT, pC, pCo, pI, pCond⟩).2] 41))
  have HN5 := h_ ((HN.out.below HB4.out).alloc (.cells #[.int .i64 (d0n ⟨nm, cells, cores, fa, cond, tables, pT, pC, pCo, pI, pCond⟩).1, .int .i64 (d0n ⟨nm, cells, cores, fa, cond, tables, pT, pC, pCo, pI, pCond⟩).2] 41))
  have HD5 := h_ (Blk.new w4 41 [.int .i64 (d0n ⟨nm, cells, cores, fa, cond, tables, pT, pC, pCo, pI, pCond⟩).1, .int .i64 (d0n ⟨nm, cells, cores, fa, cond, tables, pT, pC, pCo, pI, pCond⟩).2])
  have HB5 := h_ (show Below w1.heap.size w1 (w4.alloc (.cells #[.int .i64 (d0n ⟨nm, cells, cores, fa, cond, tables, pT, pC, pCo, pI, pCond⟩).1, .int .i64 (d0n ⟨nm, cells, cores, fa, cond, tables, pT, pC, pCo, pI, pCond⟩).2] 41)) from bl_ HB4.out _)
  generalize hB : d0n ⟨nm, cells, cores, fa, cond, tables, pT, pC, pCo, pI, pCond⟩ = B at *
  obtain ⟨ca, cb⟩ := B
  have HBE := h_ hB
  clear hB
  dsimp only [List.toArray] at HD5 HM5 HN5 HB5 ⊢
  have HC1 := h_ (show ¬ ca = 0 → b0y ⟨nm, cells, cores, fa, cond, tables, pT, pC, pCo, pI, pCond⟩ = (ca, cb) from fun h => by rw [n0a HA0.out (by rw [HBE.out]; exact h), HBE.out])
  have HC2 := h_ (show ca = 0 → ToCores ⟨nm, cells, cores, fa, cond, tables, pT, pC, pCo, pI, pCond⟩ from fun h => ⟨HA0.out, by rw [HBE.out]; exact h⟩)
  by_cases hca : ca = 0
  ·subst hca
   have HTC := h_ (HC2.out rfl)
   clear HC1 HC2 HX HBE HA HA0
   have m0 := HM5.out.cell 0
   have m1 := HM5.out.cell 1
   have m2 := HM5.out.cell 2
   have m3 := HM5.out.cell 3
   have m4 := HM5.out.cell 4
   have m5 := HM5.out.cell 5
   have m6 := HM5.out.cell 6
   have m7 := HM5.out.cell 7
   have m8 := HM5.out.cell 8
   have m9 := HM5.out.cell 9
   have m10 := HM5.out.cell 10
   have m11 := HM5.out.cell 11
   have m12 := HM5.out.cell 12
   have m13 := HM5.out.cell 13
   have m14 := HM5.out.cell 14
   have m15 := HM5.out.cell 15
   have d0 := HD5.out.cell 0
   simp only [gz_, gs_] at m0 m1 m2 m3 m4 m5 m6 m7 m8 m9 m10 m11 m12 m13 m14 m15 d0
   have hb0 := HM5.out.lt
   have hb2 := HD5.out.lt
   have hb1 := HN5.out.lt
   have n0 := HN5.out.cell 0
   have n1 := HN5.out.cell 1
   have f0 := HN5.out.free 0
   have f1 := HN5.out.free 1
   simp only [gz_, gs_] at n0 n1
   by_cases hn : cores.length = 0 ∨ 4 < cores.length
   ·have HF := h_ (HTC.out.num hn)
    have HPL := h_ (h0t (w4.alloc (.cells #[.int .i64 0, .int .i64 cb] 41)) (c := c3) (HP3.out _ HB5.out) HS.out.pCo 4 (by omega))
    rcases hn with hn | hn
    ·have hn0 : ((cores.length : Int) == 0) = true := by rw [hn]; rfl
     clear hn
     go_wp2_with (go_at_call 42; refine HPL.out.mono ?_; rintro e w' ⟨rfl, m, rfl⟩)
     refine bodyPost_ret (results_cell_row rfl _ _ (w.heap.size + 1) 41 #[.int .i64 135, .int .i64 (a0i pCo 4)] (0, 0) _ rfl (b0q (HN5.out.dn _) 135 (a0i pCo 4)) Tryz.underlying41 rfl (by kernel_rfl)) rfl ⟨HT.out _ HF.out, ?_⟩
     exact (bt_ HB1.out (bd_ HB5.out _)).setCell (Nat.le_succ _) _ |>.setCell (Nat.le_succ _) _
    ·have hn0 : ((cores.length : Int) == 0) = false := by rw [beq_eq_false_iff_ne]; omega
     have hn4 : (4 : Int) < cores.length := by omega
     clear hn
     go_wp2_with (go_at_call 42; refine HPL.out.mono ?_; rintro e w' ⟨rfl, m, rfl⟩)
     refine bodyPost_ret (results_cell_row rfl _ _ (w.heap.size + 1) 41 #[.int .i64 135, .int .i64 (a0i pCo 4)] (0, 0) _ rfl (b0q (HN5.out.dn _) 135 (a0i pCo 4)) Tryz.underlying41 rfl (by kernel_rfl)) rfl ⟨HT.out _ HF.out, ?_⟩
     exact (bt_ HB1.out (bd_ HB5.out _)).setCell (Nat.le_succ _) _ |>.setCell (Nat.le_succ _) _
   ·have HNN := h_ hn
    have hn0 : ((cores.length : Int) == 0) = false := by rw [beq_eq_false_iff_ne]; omega
    have hn4 : (cores.length : Int) ≤ 4 := by omega
    clear hn
    go_wp2_with fail
    clear m0 m1 m2 m3 m4 m5 m6 m7 m8 m9 m10 m11 m12 m13 m14 m15 d0 hb0 hb1 hb2 n0 n1 f0 f1
    have HG5 := h_ (HG.out.below HB5.out)
    generalize w4.alloc (.cells #[.int .i64 0, .int .i64 cb] 41) = w5 at *
    have HNC := h_ (show ((cores.length : Nat) : Int) = cores.length from rfl)
    go_loopw [42] (fun i wr => ∃ k : Nat, k ≤ cores.length ∧ i = .int .i64 k ∧ Hid (e0q ⟨nm, cells, cores, fa, cond, tables, pT, pC, pCo, pI, pCond⟩ k (cores.drop k) = e0q ⟨nm, cells, cores, fa, cond, tables, pT, pC, pCo, pI, pCond⟩ 0 cores) ∧ Below w5.heap.size w5 wr) (fun i _ => cores.length - (intOf i).toNat)
    case atStart => exact ⟨0, by omega, rfl, h_ rfl, Below.refl _ _⟩
    case round =>
     obtain ⟨k, hk, rfl, HE, hbr⟩ := hrel
     have HM6 := h_ (HM5.out.below hbr)
     have HN6 := h_ (HN5.out.below hbr)
     have HG6 := h_ (HG5.out.below hbr)
     have HBR := h_ (bt_ HB5.out hbr)
     have hb5 := h_ hbr
     clear hbr
     by_cases hkl : k < cores.length
     ·have hk0 : (0 : Int) ≤ k := by omega
      have hkn : (k : Int) < cores.length := by omega
      obtain ⟨g, off, cv, rfl, hc, ⟨pr, cr, er, _, _⟩, ⟨pc, cc, ec, Rc, _⟩, ⟨ph, ch, eh, Rh, _⟩⟩ := HG6.out.coreAt rfl hkl
      have hsz := HS.out.code cores[k] (by simp)
      have hklt := (HS.out.klt cores[k] (by simp)).1
      have HGood := h_ (fun h => (p0t (x := ⟨nm, cells, cores, fa, cond, tables, pT, pC, pCo, pI, pCond⟩) hkl h).symm.trans HE.out)
      have HBad := h_ (fun h => (r0b (x := ⟨nm, cells, cores, fa, cond, tables, pT, pC, pCo, pI, pCond⟩) hkl h).symm.trans HE.out)
      have a0 := hc 0 (by omega)
      have a1 := hc 1 (by omega)
      have a2 := hc 2 (by omega)
      have a3 := hc 3 (by omega)
      have a4 := hc 4 (by omega)
      clear hc
      rw [← Nat.add_assoc] at a1 a2 a3 a4
      simp only [e0p, Nat.add_zero, gz_, gs_] at a0 a1 a2 a3 a4
      dsimp only at hsz hklt HGood HBad a0 a1 a2 a3 a4 er ec eh Rc Rh
      generalize cores[k] = y at *
      obtain ⟨regs, space, table, code, hand⟩ := y
      obtain ⟨vr, vc, vh⟩ := cv
      dsimp only at er ec eh hsz hklt Rc Rh a0 a1 a2 a3 a4
      subst er ec eh
      unfold u64V at a2
      obtain ⟨z, hz⟩ : ∃ z : Int, z = (table : Nat) := ⟨_, rfl⟩
      rw [← hz] at a2
      have HD7 := h_ (Blk.new wr 82 [.slice pr regs.length cr, .int .i64 space, .int .u64 z, .slice pc code.length cc, .slice ph hand.length ch])
      have HBA := h_ (show Below wr.heap.size wr (wr.alloc (.cells #[.slice pr regs.length cr, .int .i64 space, .int .u64 z, .slice pc code.length cc, .slice ph hand.length ch] 82)) from bl_ (Below.refl _ _) _)
      have HM7 := h_ (HM6.out.below HBA.out)
      have HN7 := h_ (HN6.out.below HBA.out)
      have HG7 := h_ (HG6.out.below HBA.out)
      have HBA7 := h_ (show Below w1.heap.size w1 (wr.alloc (.cells #[.slice pr regs.length cr, .int .i64 space, .int .u64 z, .slice pc code.length cc, .slice ph hand.length ch] 82)) from bt_ HBR.out HBA.out)
      have HRc := h_ (fun w2 (hb : Below _ _ w2) => (Rc.below HBA.out).below hb)
      have HRh := h_ (fun w2 (hb : Below _ _ w2) => (Rh.below HBA.out).below hb)
      have HSZ := h_ (And.intro hsz hklt)
      have HTa := h_ (fun w2 (hb : Below _ _ w2) => (HTR.out _ HBA7.out).below hb)
      have HP7 := h_ (fun w2 (hb : Below _ _ w2) => (HP3.out _ HBA7.out).below hb)
      have HB7 := h_ (show Below w1.heap.size w1 (wr.alloc (.cells #[.slice pr regs.length cr, .int .i64 space, .int .u64 z, .slice pc code.length cc, .slice ph hand.length ch] 82)) from bt_ HBR.out HBA.out)
      have HB57 := h_ (bt_ hb5.out HBA.out)
      clear Rc Rh hsz hklt
      have m14 := HM7.out.cell 14
      have m2 := HM7.out.cell 2
      simp only [gz_, gs_] at m14 m2
      dsimp only [List.toArray] at HD7
      have hb0 := HM7.out.lt
      have hb2 := HD7.out.lt
      have HZ := h_ hz
      clear hz
      have HPI := h_ (HS.out.pI)
      have hpi := HS.out.pI
      by_cases hki : k < pI.length
      have hkin : (k : Int) < pI.length := by omega
      obtain ⟨g4, off4, pq, cq, rfl, hi, Rq, hql⟩ := HG7.out.insAt rfl hki
      dsimp only at hi Rq hql
      clear hki
      go_wp2_with fail
      have HRq := h_ (fun w2 (hb : Below _ _ w2) => Rq.below hb)
      have HCo := h_ (fun (w8 : World) (hb : Below _ _ w8) => x0m w8 (cr := cr) (cT := c1) (cP := cq) (pr := pr) (regs := regs) (space := space) (cc := cc) (ch := ch) (at_ := a0i pCo k) HZ.out (HRq.out _ hb) hql (HTa.out _ hb) (HRc.out _ hb) (HRh.out _ hb) HS.out.tables HSZ.out.1 HSZ.out.2)
      clear m14 m2 hb0 hb2 hi Rq hql HRq
      generalize wr.alloc (.cells #[.slice pr regs.length cr, .int .i64 space, .int .u64 z, .slice pc code.length cc, .slice ph hand.length ch] 82) = w7 at *
      generalize wr.heap.size = h7 at *
      generalize d0p tables ⟨regs, space, table, code, hand⟩ (a0i pCo k) (pI.getD k []) = A at *
      obtain ⟨da, db⟩ := A
      dsimp only at HCo HGood HBad
      rotate_left
      have hkin : (pI.length : Int) ≤ k := by omega
      have HQ0 := h_ (show pI.getD k [] = [] by simp [List.getD, List.getElem?_eq_none (show pI.length ≤ k by omega)])
      clear hki
      go_wp2_with fail
      have HCo := h_ (fun (w8 : World) (hb : Below _ _ w8) => e1e w8 (cr := cr) (cT := c1) (pr := pr) (regs := regs) (space := space) (cc := cc) (ch := ch) (at_ := a0i pCo k) HZ.out HQ0.out (HTa.out _ hb) (HRc.out _ hb) (HRh.out _ hb) HS.out.tables HSZ.out.1 HSZ.out.2)
      clear m14 m2 hb0 hb2
      generalize wr.alloc (.cells #[.slice pr regs.length cr, .int .i64 space, .int .u64 z, .slice pc code.length cc, .slice ph hand.length ch] 82) = w7 at *
      generalize wr.heap.size = h7 at *
      generalize d0p tables ⟨regs, space, table, code, hand⟩ (a0i pCo k) (pI.getD k []) = A at *
      obtain ⟨da, db⟩ := A
      dsimp only at HCo HGood HBad
      all_goals (
       have m10 := HM7.out.cell 10
       have m13 := HM7.out.cell 13
       have d0 := HD7.out.cell 0
       have d1 := HD7.out.cell 1
       have d2 := HD7.out.cell 2
       have d3 := HD7.out.cell 3
       have d4 := HD7.out.cell 4
       simp only [gz_, gs_] at m10 m13 d0 d1 d2 d3 d4
       have bw0 := (Below.refl w7.heap.size w7).drew
       refine wp_region_held_drew (S := (fun w' => w'.cell? ⟨w.heap.size, 10, none⟩ = some (.slice p1 tables.length c1) ∧ w'.cell? ⟨w.heap.size, 13, none⟩ = some (.slice p3 pCo.length c3) ∧ w'.cell? ⟨h7, 0, none⟩ = some (.slice pr regs.length cr) ∧ w'.cell? ⟨h7, 1, none⟩ = some (.int .i64 space) ∧ w'.cell? ⟨h7, 2, none⟩ = some (.int .u64 z) ∧ w'.cell? ⟨h7, 3, none⟩ = some (.slice pc code.length cc) ∧ w'.cell? ⟨h7, 4, none⟩ = some (.slice ph hand.length ch))) (by kernel_rfl) (by (try dsimp only); exact ⟨cell_below m10 bw0, cell_below m13 bw0, cell_below d0 bw0, cell_below d1 bw0, cell_below d2 bw0, cell_below d3 bw0, cell_below d4 bw0⟩) (fun hHeld => ?_)
       refine tk1 0 59 rfl ?_
       simp only [Act.put, tka, tk0, tkS]
       refine tk1 1 60 rfl ?_
       simp only [Act.put, tka, tk0, tkS]
       refine tk1 2 61 rfl ?_
       simp only [Act.put, tka, tk0, tkS]
       refine tk1 3 62 rfl ?_
       simp only [Act.put, tka, tk0, tkS]
       refine tk1 4 63 rfl ?_
       simp only [Act.put, tka, tk0, tkS]
       refine tk1 5 64 rfl ?_
       simp only [Act.put, tka, tk0, tkS]
       refine tk1 6 65 rfl ?_
       simp only [Act.put, tka, tk0, tkS]
       refine tk1 8 67 rfl ?_
       simp only [Act.put, tka, tk0, tkS]
       refine wpAnyH_ready (rs := [7, 10]) (by kernel_rfl) (by simp) ?_
       refine AllReadyH.cons (o := ⟨some 66, _, _, _, _, _⟩) rfl (fun K hK => ?_) ?_
       go_simp
       go_at_call 42
       refine (h0t _ (c := c3) (HP7.out _ bw0) HS.out.pCo k (by omega)).mono ?_
       rintro e w21 ⟨rfl, hm⟩
       have bw1 : Below w7.heap.size w7 w21 := by obtain ⟨m, rfl⟩ := hm; exact bd_ bw0 m
       clear hm
       refine hK.out _ _ (by (try dsimp only); exact ⟨cell_below m10 bw1, cell_below m13 bw1, cell_below d0 bw1, cell_below d1 bw1, cell_below d2 bw1, cell_below d3 bw1, cell_below d4 bw1⟩) ?_
       clear hK K hHeld
       intro hHeld
       try simp only [Act.put, tka, tk0, tkS]
       refine wpAnyH_ready (rs := [9, 10]) (by kernel_rfl) (by simp) ?_
       refine AllReadyH.cons (o := ⟨some 68, _, _, _, _, _⟩) rfl (fun K hK => ?_) ?_
       go_simp
       go_at_call 43
       refine (HCo.out _ bw1).mono ?_
       rintro e w22 ⟨rfl, hb⟩
       have bw2 := bt_ bw1 hb
       clear hb
       refine hK.out _ _ (by (try dsimp only); exact ⟨cell_below m10 bw2, cell_below m13 bw2, cell_below d0 bw2, cell_below d1 bw2, cell_below d2 bw2, cell_below d3 bw2, cell_below d4 bw2⟩) ?_
       clear hK K hHeld
       intro hHeld
       try simp only [Act.put, tka, tk0, tkS]
       refine wpAnyH_ready (rs := [10]) (by kernel_rfl) (by simp) ?_
       refine AllReadyH.cons (o := ⟨some 9, _, _, _, _, _⟩) rfl (fun K hK => ?_) AllReadyH.nil
       go_simp
       have bw3 := bl_ bw2 (.cells #[.int .i64 0, .int .i64 0] 41)
       have hq3 : Blk (w22.alloc (.cells #[.int .i64 0, .int .i64 0] 41)) 41 w22.heap.size [.int .i64 0, .int .i64 0] := Blk.new _ _ _
       refine hK.out _ _ (by (try dsimp only); exact ⟨cell_below m10 bw3, cell_below m13 bw3, cell_below d0 bw3, cell_below d1 bw3, cell_below d2 bw3, cell_below d3 bw3, cell_below d4 bw3⟩) ?_
       clear hK K hHeld
       intro hHeld
       try simp only [Act.put, tka, tk0, tkS]
       refine wpAnyH_ready (rs := [11]) (by kernel_rfl) (by simp) ?_
       refine AllReadyH.cons (o := ⟨none, _, _, _, _, _⟩) rfl (fun K hK => ?_) AllReadyH.nil
       go_simp
       have HQ9 := h_ (show Blk (w22.alloc (.cells #[.int .i64 da, .int .i64 db] 41)) 41 w22.heap.size [.int .i64 da, .int .i64 db] from Blk.new _ _ _)
       have bw9 : Below w7.heap.size w7 (w22.alloc (.cells #[.int .i64 da, .int .i64 db] 41)) := bl_ bw2 _
       refine hK.out _ _ (by (try dsimp only); exact ⟨cell_below m10 bw9, cell_below m13 bw9, cell_below d0 bw9, cell_below d1 bw9, cell_below d2 bw9, cell_below d3 bw9, cell_below d4 bw9⟩) ?_
       clear hK K hHeld
       intro hHeld
       try simp only [Act.put, tka, tk0, tkS]
       refine wpAnyH_done (by kernel_rfl) ?_ _
       clear hHeld m10 m13 d0 d1 d2 d3 d4
       try clear q0 q1 f0 f1 q4
       have HB9 := h_ (bt_ HB7.out bw9)
       have HB59 := h_ (bt_ HB57.out bw9)
       have HN9 := h_ (HN7.out.below bw9)
       clear bw9
       generalize (w22.alloc (.cells #[.int .i64 da, .int .i64 db] 41)) = w9 at *
       generalize w22.heap.size = b9 at *
       rotate_left
       refine AllReadyH.cons (o := ⟨some 9, _, _, _, _, _⟩) rfl (fun K hK => ?_) ?_
       go_simp
       have bw4 := bl_ bw1 (.cells #[.int .i64 0, .int .i64 0] 41)
       have hq4 : Blk (w21.alloc (.cells #[.int .i64 0, .int .i64 0] 41)) 41 w21.heap.size [.int .i64 0, .int .i64 0] := Blk.new _ _ _
       refine hK.out _ _ (by (try dsimp only); exact ⟨cell_below m10 bw4, cell_below m13 bw4, cell_below d0 bw4, cell_below d1 bw4, cell_below d2 bw4, cell_below d3 bw4, cell_below d4 bw4⟩) ?_
       clear hK K hHeld
       intro hHeld
       try simp only [Act.put, tka, tk0, tkS]
       refine wpAnyH_ready (rs := [9]) (by kernel_rfl) (by simp) ?_
       refine AllReadyH.cons (o := ⟨some 68, _, _, _, _, _⟩) rfl (fun K hK => ?_) AllReadyH.nil
       go_simp
       go_at_call 43
       refine (HCo.out _ bw4).mono ?_
       rintro e w25 ⟨rfl, hb⟩
       have bw5 := bt_ bw4 hb
       have hq5 := hq4.below hb
       clear hb
       refine hK.out _ _ (by (try dsimp only); exact ⟨cell_below m10 bw5, cell_below m13 bw5, cell_below d0 bw5, cell_below d1 bw5, cell_below d2 bw5, cell_below d3 bw5, cell_below d4 bw5⟩) ?_
       clear hK K hHeld
       intro hHeld
       try simp only [Act.put, tka, tk0, tkS]
       refine wpAnyH_ready (rs := [11]) (by kernel_rfl) (by simp) ?_
       refine AllReadyH.cons (o := ⟨none, _, _, _, _, _⟩) rfl (fun K hK => ?_) AllReadyH.nil
       have q0 := hq5.cell 0
       have q1 := hq5.cell 1
       have f0 := hq5.free 0
       have f1 := hq5.free 1
       have q4 := hq5.lt
       simp only [gz_, gs_] at q0 q1
       go_simp
       have HQ9 := h_ (b0q hq5 da db)
       have bw9 : Below w7.heap.size w7 ((w25.setCell ⟨w21.heap.size, 0, none⟩ (.int .i64 da)).setCell ⟨w21.heap.size, 1, none⟩ (.int .i64 db)) := (bw5.setCell (by exact bw1.size) _).setCell (by exact bw1.size) _
       refine hK.out _ _ (by (try dsimp only); exact ⟨cell_below m10 bw9, cell_below m13 bw9, cell_below d0 bw9, cell_below d1 bw9, cell_below d2 bw9, cell_below d3 bw9, cell_below d4 bw9⟩) ?_
       clear hK K hHeld
       intro hHeld
       try simp only [Act.put, tka, tk0, tkS]
       refine wpAnyH_done (by kernel_rfl) ?_ _
       clear hHeld m10 m13 d0 d1 d2 d3 d4
       try clear q0 q1 f0 f1 q4
       have HB9 := h_ (bt_ HB7.out bw9)
       have HB59 := h_ (bt_ HB57.out bw9)
       have HN9 := h_ (HN7.out.below bw9)
       clear bw9
       generalize ((w25.setCell ⟨w21.heap.size, 0, none⟩ (.int .i64 da)).setCell ⟨w21.heap.size, 1, none⟩ (.int .i64 db)) = w9 at *
       generalize w21.heap.size = b9 at *
       rotate_left
       exact AllReadyH.nil
       refine AllReadyH.cons (o := ⟨some 9, _, _, _, _, _⟩) rfl (fun K hK => ?_) ?_
       go_simp
       have bw6 := bl_ bw0 (.cells #[.int .i64 0, .int .i64 0] 41)
       have hq6 : Blk (w7.drew.alloc (.cells #[.int .i64 0, .int .i64 0] 41)) 41 w7.heap.size [.int .i64 0, .int .i64 0] := Blk.new w7.drew _ _
       refine hK.out _ _ (by (try dsimp only); exact ⟨cell_below m10 bw6, cell_below m13 bw6, cell_below d0 bw6, cell_below d1 bw6, cell_below d2 bw6, cell_below d3 bw6, cell_below d4 bw6⟩) ?_
       clear hK K hHeld
       intro hHeld
       try simp only [Act.put, tka, tk0, tkS]
       refine wpAnyH_ready (rs := [7]) (by kernel_rfl) (by simp) ?_
       refine AllReadyH.cons (o := ⟨some 66, _, _, _, _, _⟩) rfl (fun K hK => ?_) AllReadyH.nil
       go_simp
       go_at_call 42
       refine (h0t _ (c := c3) (HP7.out _ bw6) HS.out.pCo k (by omega)).mono ?_
       rintro e w27 ⟨rfl, hm⟩
       have bw7 : Below w7.heap.size w7 w27 := by obtain ⟨m, rfl⟩ := hm; exact bd_ bw6 m
       have hq7 : Blk w27 41 (w7.heap.size) [.int .i64 0, .int .i64 0] := by obtain ⟨m, rfl⟩ := hm; exact hq6.dn m
       clear hm
       refine hK.out _ _ (by (try dsimp only); exact ⟨cell_below m10 bw7, cell_below m13 bw7, cell_below d0 bw7, cell_below d1 bw7, cell_below d2 bw7, cell_below d3 bw7, cell_below d4 bw7⟩) ?_
       clear hK K hHeld
       intro hHeld
       try simp only [Act.put, tka, tk0, tkS]
       refine wpAnyH_ready (rs := [9]) (by kernel_rfl) (by simp) ?_
       refine AllReadyH.cons (o := ⟨some 68, _, _, _, _, _⟩) rfl (fun K hK => ?_) AllReadyH.nil
       go_simp
       go_at_call 43
       refine (HCo.out _ bw7).mono ?_
       rintro e w28 ⟨rfl, hb⟩
       have bw8 := bt_ bw7 hb
       have hq8 := hq7.below hb
       clear hb
       refine hK.out _ _ (by (try dsimp only); exact ⟨cell_below m10 bw8, cell_below m13 bw8, cell_below d0 bw8, cell_below d1 bw8, cell_below d2 bw8, cell_below d3 bw8, cell_below d4 bw8⟩) ?_
       clear hK K hHeld
       intro hHeld
       try simp only [Act.put, tka, tk0, tkS]
       refine wpAnyH_ready (rs := [11]) (by kernel_rfl) (by simp) ?_
       refine AllReadyH.cons (o := ⟨none, _, _, _, _, _⟩) rfl (fun K hK => ?_) AllReadyH.nil
       have q0 := hq8.cell 0
       have q1 := hq8.cell 1
       have f0 := hq8.free 0
       have f1 := hq8.free 1
       have q4 := hq8.lt
       simp only [gz_, gs_] at q0 q1
       go_simp
       have HQ9 := h_ (b0q hq8 da db)
       have bw9 : Below w7.heap.size w7 ((w28.setCell ⟨w7.heap.size, 0, none⟩ (.int .i64 da)).setCell ⟨w7.heap.size, 1, none⟩ (.int .i64 db)) := (bw8.setCell (by exact bw0.size) _).setCell (by exact bw0.size) _
       refine hK.out _ _ (by (try dsimp only); exact ⟨cell_below m10 bw9, cell_below m13 bw9, cell_below d0 bw9, cell_below d1 bw9, cell_below d2 bw9, cell_below d3 bw9, cell_below d4 bw9⟩) ?_
       clear hK K hHeld
       intro hHeld
       try simp only [Act.put, tka, tk0, tkS]
       refine wpAnyH_done (by kernel_rfl) ?_ _
       clear hHeld m10 m13 d0 d1 d2 d3 d4
       try clear q0 q1 f0 f1 q4
       have HB9 := h_ (bt_ HB7.out bw9)
       have HB59 := h_ (bt_ HB57.out bw9)
       have HN9 := h_ (HN7.out.below bw9)
       clear bw9
       generalize ((w28.setCell ⟨w7.heap.size, 0, none⟩ (.int .i64 da)).setCell ⟨w7.heap.size, 1, none⟩ (.int .i64 db)) = w9 at *
       generalize w7.heap.size = b9 at *
       rotate_left
       exact AllReadyH.nil
       all_goals (
        have q0 := HQ9.out.cell 0
        have q1 := HQ9.out.cell 1
        simp only [gz_, gs_] at q0 q1
        have q4 := HQ9.out.lt
        by_cases hda : da = 0
        ·subst hda
         have HGo := h_ (HGood.out rfl)
         go_wp2_with fail
         go_roundw
         case rel => exact ⟨k + 1, by omega, by go_num, HGo, HB59.out⟩
         case measure => simp [intOf] <;> omega
        ·have HF := h_ (HTC.out.core HNN.out (by have := HBad.out hda; dsimp only; rw [← this]; exact hda) |>.trans (HBad.out hda).symm)
         have nda : (da == 0) = false := beq_eq_false_iff_ne.2 hda
         clear hda
         have n0 := HN9.out.cell 0
         have n1 := HN9.out.cell 1
         have f0 := HN9.out.free 0
         have f1 := HN9.out.free 1
         simp only [gz_, gs_] at n0 n1
         have hb1 := HN9.out.lt
         go_wp2_with fail
         refine bodyPost_ret (results_cell_row rfl _ _ (w.heap.size + 1) 41 #[.int .i64 da, .int .i64 db] (0, 0) _ rfl (b0q HN9.out da db) Tryz.underlying41 rfl (by kernel_rfl)) rfl ⟨HT.out _ HF.out, ?_⟩
         exact (bt_ HB1.out HB9.out).setCell (Nat.le_succ _) _ |>.setCell (Nat.le_succ _) _))
     ·obtain rfl : k = cores.length := by omega
      have HC0 := h_ (show (e0q ⟨nm, cells, cores, fa, cond, tables, pT, pC, pCo, pI, pCond⟩ 0 cores).1 = 0 by rw [← HE.out, p0u (x := ⟨nm, cells, cores, fa, cond, tables, pT, pC, pCo, pI, pCond⟩) rfl])
      have HEv := h_ (fun w2 (h : GRd w2 ⟨nm, cells, cores, fa, cond, tables, pT, pC, pCo, pI, pCond⟩ ⟨vC, .slice p2 cores.length c2, k0, k1, k2, k3, k4, k5, .slice p1 tables.length c1, vPT, vPC, .slice p3 pCo.length c3, .slice p4 pI.length c4, cvs, ivs⟩) => @m0v w2 ⟨nm, cells, cores, fa, cond, tables, pT, pC, pCo, pI, pCond⟩ ⟨vC, .slice p2 cores.length c2, k0, k1, k2, k3, k4, k5, .slice p1 tables.length c1, vPT, vPC, .slice p3 pCo.length c3, .slice p4 pI.length c4, cvs, ivs⟩ h)
      have HPl := h_ (fun w2 (hb : Below w1.heap.size w1 w2) => h0t w2 (c := c3) (HP3.out w2 hb) HS.out.pCo 0 (by omega))
      clear HE hkl
      dsimp only at HEv
      have m0 := HM6.out.cell 0
      have m1 := HM6.out.cell 1
      have m2 := HM6.out.cell 2
      have m3 := HM6.out.cell 3
      have m4 := HM6.out.cell 4
      have m5 := HM6.out.cell 5
      have m6 := HM6.out.cell 6
      have m7 := HM6.out.cell 7
      have m8 := HM6.out.cell 8
      have m9 := HM6.out.cell 9
      have m10 := HM6.out.cell 10
      have m11 := HM6.out.cell 11
      have m12 := HM6.out.cell 12
      have m13 := HM6.out.cell 13
      have m14 := HM6.out.cell 14
      have m15 := HM6.out.cell 15
      simp only [gz_, gs_] at m0 m1 m2 m3 m4 m5 m6 m7 m8 m9 m10 m11 m12 m13 m14 m15
      have hb0 := HM6.out.lt
      go_wp2_with fail
      clear m0 m1 m2 m3 m4 m5 m6 m7 m8 m9 m10 m11 m12 m13 m14 m15 hb0
      refine (HEv.out _ HG6.out).mono ?_
      rintro e w7 ⟨rfl, hb⟩
      have HB7 := h_ (bt_ HBR.out hb)
      have HM7 := h_ (HM6.out.below hb)
      have HN7 := h_ (HN6.out.below hb)
      have HG7 := h_ (HG6.out.below hb)
      clear hb
      have m13 := HM7.out.cell 13
      have hb0 := HM7.out.lt
      have n0 := HN7.out.cell 0
      have n1 := HN7.out.cell 1
      have f0 := HN7.out.free 0
      have f1 := HN7.out.free 1
      have hb1 := HN7.out.lt
      simp only [gz_, gs_] at n0 n1 m13
      by_cases hev : 64 < b0m cores.length cores
      ·have HF := h_ (HTC.out.ev HNN.out HC0.out hev)
       have hev2 : (64 : Int) < (b0m cores.length cores : Nat) := by omega
       clear hev
       dsimp only at HF
       generalize ((b0m cores.length cores : Nat) : Int) = ev at *
       go_wp2_with (go_at_call 42; refine (HPl.out _ HB7.out).mono ?_; rintro e w' ⟨rfl, m, rfl⟩)
       refine bodyPost_ret (results_cell_row rfl _ _ (w.heap.size + 1) 41 #[.int .i64 137, .int .i64 (a0i pCo 0)] (0, 0) _ rfl (b0q (HN7.out.dn _) 137 (a0i pCo 0)) Tryz.underlying41 rfl (by kernel_rfl)) rfl ⟨HT.out _ HF.out, ?_⟩
       exact (bt_ HB1.out (bd_ HB7.out _)).setCell (Nat.le_succ _) _ |>.setCell (Nat.le_succ _) _
      ·have hev2 : (((b0m cores.length cores : Nat) : Int)) ≤ 64 := by omega
       have HEV := h_ hev
       clear hev
       obtain ⟨S, hcond⟩ := HG7.out.cond
       have HRt := h_ (b1v (cores.length : Nat) cond w7 S _ HS.out.cond hcond)
       unfold condC at HRt
       clear hcond
       dsimp only [List.toArray] at HRt
       have m0 := HM7.out.cell 0
       have m1 := HM7.out.cell 1
       have m2 := HM7.out.cell 2
       have m3 := HM7.out.cell 3
       have m4 := HM7.out.cell 4
       have m5 := HM7.out.cell 5
       have m6 := HM7.out.cell 6
       have m7 := HM7.out.cell 7
       have m8 := HM7.out.cell 8
       have m9 := HM7.out.cell 9
       have m10 := HM7.out.cell 10
       have m11 := HM7.out.cell 11
       have m12 := HM7.out.cell 12
       have m13 := HM7.out.cell 13
       have m14 := HM7.out.cell 14
       have m15 := HM7.out.cell 15
       simp only [gz_, gs_] at m0 m1 m2 m3 m4 m5 m6 m7 m8 m9 m10 m11 m12 m13 m14 m15
       generalize ((b0m cores.length cores : Nat) : Int) = ev at *
       go_wp2_with fail
       refine HRt.out.mono ?_
       rintro e w8 ⟨rfl, hb⟩
       have HB8 := h_ (bt_ HB7.out hb)
       have HM8 := h_ (HM7.out.below hb)
       have HN8 := h_ (HN7.out.below hb)
       have HCo := h_ (HTC.out.cond HNN.out HC0.out HEV.out)
       have HOk := h_ (HTC.out.ok HNN.out HC0.out HEV.out)
       clear hb m0 m1 m2 m3 m4 m5 m6 m7 m8 m9 m10 m11 m12 m13 m14 m15 hb0 hb1 n0 n1 f0 f1
       have m15 := HM8.out.cell 15
       have hb0 := HM8.out.lt
       have n0 := HN8.out.cell 0
       have n1 := HN8.out.cell 1
       have f0 := HN8.out.free 0
       have f1 := HN8.out.free 1
       have hb1 := HN8.out.lt
       simp only [gz_, gs_] at n0 n1 m15
       dsimp only at HCo HOk
       generalize g0w (cores.length : Nat) cond = rt at *
       by_cases hrt : rt = 0
       ·have HF := h_ (HOk.out hrt)
        subst hrt
        go_wp2_with fail
        refine bodyPost_ret (results_cell_row rfl _ _ (w.heap.size + 1) 41 #[.int .i64 0, .int .i64 0] (0, 0) _ rfl (b0q HN8.out 0 0) Tryz.underlying41 rfl (by kernel_rfl)) rfl ⟨HT.out _ HF.out, ?_⟩
        exact (bt_ HB1.out HB8.out).setCell (Nat.le_succ _) _ |>.setCell (Nat.le_succ _) _
       ·have HF := h_ (HCo.out hrt)
        have nrt : (rt == 0) = false := beq_eq_false_iff_ne.2 hrt
        clear hrt
        go_wp2_with fail
        refine bodyPost_ret (results_cell_row rfl _ _ (w.heap.size + 1) 41 #[.int .i64 rt, .int .i64 pCond] (0, 0) _ rfl (b0q HN8.out rt pCond) Tryz.underlying41 rfl (by kernel_rfl)) rfl ⟨HT.out _ HF.out, ?_⟩
        exact (bt_ HB1.out HB8.out).setCell (Nat.le_succ _) _ |>.setCell (Nat.le_succ _) _
  ·have HF := h_ (HC1.out hca)
   have nca : (ca == 0) = false := beq_eq_false_iff_ne.2 hca
   clear hca HC1 HC2 HX HBE
   have hb1 := HN5.out.lt
   have hb2 := HD5.out.lt
   have n0 := HN5.out.cell 0
   have n1 := HN5.out.cell 1
   have f0 := HN5.out.free 0
   have f1 := HN5.out.free 1
   have d0 := HD5.out.cell 0
   have d1 := HD5.out.cell 1
   simp only [gz_, gs_] at n0 n1 d0 d1
   go_wp2_with fail
   refine bodyPost_ret (results_cell_row rfl _ _ (w.heap.size + 1) 41 #[.int .i64 ca, .int .i64 cb] (0, 0) _ rfl (b0q HN5.out ca cb) Tryz.underlying41 rfl (by kernel_rfl)) rfl ⟨HT.out _ HF.out, ?_⟩
   exact (bt_ HB1.out HB5.out).setCell (Nat.le_succ _) _ |>.setCell (Nat.le_succ _) _
 ·have HF := h_ (HX.out (ta, tb) rfl hta)
  have nta : (ta == 0) = false := beq_eq_false_iff_ne.2 hta
  clear hta
  go_wp2_with fail
  refine bodyPost_ret (results_cell_row rfl _ _ (w.heap.size + 1) 41 #[.int .i64 ta, .int .i64 tb] (0, 0) _ rfl (b0q HN3.out ta tb) Tryz.underlying41 rfl (by kernel_rfl)) rfl ⟨HT.out _ HF.out, ?_⟩
  exact (bt_ HB1.out HB3.out).setCell (Nat.le_succ _) _ |>.setCell (Nat.le_succ _) _
end
section
open Go.Shelf
def p0f : Ren := ⟨fun | 153 => 156 | 152 => 173 | 226 => 174 | 227 => 175 | 228 => 176 | 137 => 185 | 119 => 186 | 224 => 187 | 225 => 188 | 217 => 192 | 266 => 193 | n => n, fun | 9 => 9 | 3 => 3 | 4 => 4 | 5 => 5 | 21 => 21 | 117 => 213 | 116 => 212 | 0 => 0 | 46 => 122 | 124 => 222 | n => n, fun n => n⟩
theorem p0g : Lays.n153 Tryz.prog p0f := {
 mixed := by kernel_rfl,
 f119 := by kernel_rfl,
 f137 := by kernel_rfl,
 f152 := by kernel_rfl,
 f153 := by kernel_rfl,
 f217 := by kernel_rfl,
 f224 := by kernel_rfl,
 f225 := by kernel_rfl,
 f226 := by kernel_rfl,
 f227 := by kernel_rfl,
 f228 := by kernel_rfl,
 f266 := by kernel_rfl,
 t0 := by kernel_rfl,
 a0 := fun _ => by kernel_rfl,
 z0 := fun _ => by kernel_rfl,
 v0 := fun _ => by kernel_rfl,
 t3 := by kernel_rfl,
 a3 := fun _ => by kernel_rfl,
 z3 := fun _ => by kernel_rfl,
 v3 := fun _ => by kernel_rfl,
 t4 := by kernel_rfl,
 a4 := fun _ => by kernel_rfl,
 z4 := fun _ => by kernel_rfl,
 v4 := fun _ => by kernel_rfl,
 t5 := by kernel_rfl,
 a5 := fun _ => by kernel_rfl,
 z5 := fun _ => by kernel_rfl,
 v5 := fun _ => by kernel_rfl,
 t9 := by kernel_rfl,
 a9 := fun _ => by kernel_rfl,
 z9 := fun _ => by kernel_rfl,
 v9 := fun _ => by kernel_rfl,
 t21 := by kernel_rfl,
 a21 := fun _ => by kernel_rfl,
 z21 := fun _ => by kernel_rfl,
 v21 := fun _ => by kernel_rfl,
 t46 := by kernel_rfl,
 a46 := fun _ => by kernel_rfl,
 z46 := fun _ => by kernel_rfl,
 v46 := fun _ => by kernel_rfl,
 t116 := by kernel_rfl,
 a116 := fun _ => by kernel_rfl,
 z116 := fun _ => by kernel_rfl,
 t117 := by kernel_rfl,
 a117 := fun _ => by kernel_rfl,
 z117 := fun _ => by kernel_rfl,
 v117 := fun _ => by kernel_rfl,
 t124 := by kernel_rfl,
 a124 := fun _ => by kernel_rfl,
 z124 := fun _ => by kernel_rfl,
 v124 := fun _ => by kernel_rfl }
theorem l1k : (Tryz.prog.info? (p0f.t 116)).map (fun i => (i.zero, i.size)) = some (some (.agg (Array.replicate 256 (.bool false))), 256) := by kernel_rfl
end
end Go.Proofs.YtmnojnopejhebaaGreat
