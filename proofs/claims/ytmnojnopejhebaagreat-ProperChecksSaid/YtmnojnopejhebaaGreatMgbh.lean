/- How long a test's text is, and what the check gives: plain. -/
import Derived.Test.YtmnojnopejhebaaGreatMgah
import Derived.Test.YtmnojnopejhebaaGreatMgai
import Derived.Test.YtmnojnopejhebaaGreatMgaj
import Derived.Test.YtmnojnopejhebaaGreatMgbd
import Derived.Test.YtmnojnopejhebaaGreatMgbg
namespace Go.Proofs.YtmnojnopejhebaaGreat
set_option linter.unusedVariables false
set_option linter.unusedSimpArgs false
set_option maxRecDepth 100000
set_option maxHeartbeats 25600000
section
open Go.RowKit
theorem GRd.coreCells {w : World} {x : SrcA} {v : SrcV} (h : GRd w (gsrc x) v) {p : Option Addr} {c : Nat} (hv : v.vCo = .slice p x.cores.length c) {k : Nat} (hk : k < x.cores.length) : ∃ (g off : Nat) (pr : Option Addr) (cr : Nat) (pc : Option Addr) (cc : Nat) (ph : Option Addr) (ch : Nat), p = some ⟨g, off, none⟩ ∧ w.cell? ⟨g, off + k * 5, none⟩ = some (.slice pr x.cores[k].regs.length cr) ∧ w.cell? ⟨g, off + k * 5 + 1, none⟩ = some (.int .i64 (x.cores[k].space : Nat)) ∧ w.cell? ⟨g, off + k * 5 + 2, none⟩ = some (.int .u64 (x.cores[k].table : Nat)) ∧ w.cell? ⟨g, off + k * 5 + 3, none⟩ = some (.slice pc x.cores[k].code.length cc) ∧ w.cell? ⟨g, off + k * 5 + 4, none⟩ = some (.slice ph x.cores[k].hand.length ch) ∧ Rds w 1 pr x.cores[k].regs.length (x.cores[k].regs.map u64V) ∧ Rds w 6 pc x.cores[k].code.length (insL x.cores[k].code) ∧ Rds w 6 ph x.cores[k].hand.length (insL x.cores[k].hand) := by
 have hl : (gsrc x).cores.length = x.cores.length := by simp [gsrc]
 obtain ⟨g, off, cv, hp, hc, ⟨pr, cr, er, Rr, _⟩, ⟨pc, cc, ec, Rc, _⟩, ⟨ph, ch, eh, Rh, _⟩⟩ := h.coreAt (p := p) (c := c) (by rw [hl]; exact hv) (k := k) (by rw [hl]; exact hk)
 have e : (gsrc x).cores[k]'(by rw [hl]; exact hk) = l0d x.cores[k] := by simp [gsrc]
 rw [e] at hc er ec eh Rr Rc Rh
 have a0 := hc 0 (by omega)
 have a1 := hc 1 (by omega)
 have a2 := hc 2 (by omega)
 have a3 := hc 3 (by omega)
 have a4 := hc 4 (by omega)
 rw [← Nat.add_assoc] at a1 a2 a3 a4
 simp only [e0p, Nat.add_zero, gz_, gs_, er, ec, eh] at a0 a1 a2 a3 a4
 exact ⟨g, off, pr, cr, pc, cc, ph, ch, hp, a0, a1, a2, a3, a4, Rr, Rc, Rh⟩
theorem z0m (w : World) {x : SrcA} {v : SrcV} (h : GRd w (gsrc x) v) (ht : TestOK x) (hl : (q0d x).length ≤ 16384) :
  Calls Tryz.prog 10 #[.agg (srcC x v).toArray] w fun e w' => e = .returned (.string (ba (q0d x))) ∧ Below w.heap.size w w' := by
 obtain ⟨p3, c3, e3, R3, _⟩ := h.tables
 obtain ⟨p1, c1, e1, R1, _⟩ := h.cells
 obtain ⟨p2, c2, e2, R2, _⟩ := h.cores
 have HS := h_ h.sizes
 have HG0 := h_ h
 have HOK := h_ ht
 have HTX := h_ (g1s x)
 obtain ⟨TX, hTX⟩ : ∃ TX, TX = q0d x := ⟨_, rfl⟩
 rw [← hTX] at HTX hl ⊢
 clear hTX h ht
 obtain ⟨nm, cells, cores, fa, cond, tables, pT, pC, pCo, pI, pCond, aft⟩ := x
 obtain ⟨vC, vCo, k0, k1, k2, k3, k4, k5, vT, vPT, vPC, vPCo, vPI, cvs, ivs⟩ := v
 have hlc : (gsrc ⟨nm, cells, cores, fa, cond, tables, pT, pC, pCo, pI, pCond, aft⟩).cores.length = cores.length := by simp [gsrc]
 rw [hlc] at e2 R2
 clear hlc
 dsimp only [gsrc] at e1 e2 e3 R1 R2 R3
 subst e1 e2 e3
 have HTX := h_ (show (flat ((1, k0b) :: l0v nm.data.toList) ++ [10]) ++ L10 (tables.map (fun v => flat ((1, a0s) :: b0l v))) ++ L10 (cells.map (fun p => flat ((1, c0v) :: d0j p.1 p.2))) ++ L10 (a0n 0 cores) ++ L10 [i0o fa cond] = TX from by
  rw [HTX.out]; unfold h0s; simp only [o0k, e0d, j0x, List.append_assoc])
 obtain ⟨L1, hL1⟩ : ∃ L1, L1 = (flat ((1, k0b) :: l0v nm.data.toList) ++ [10]) := ⟨_, rfl⟩
 have HL1 := h_ (show [] ++ ((k0b ++ ([32] ++ nm.data.toList)) ++ [10]) = L1 from by rw [hL1]; simp [flat, l0v])
 rw [← hL1] at HTX
 have HLT0 := h_ hl
 have HLL := h_ (show L1.length + (L10 (tables.map (fun v => flat ((1, a0s) :: b0l v)))).length + (L10 (cells.map (fun p => flat ((1, c0v) :: d0j p.1 p.2)))).length + (L10 (a0n 0 cores)).length + (L10 [i0o fa cond]).length ≤ 16384 from by
  have q := congrArg List.length HTX.out
  simp only [List.length_append] at q
  omega)
 have HLN := h_ (show ([] : List UInt8).length + (k0b ++ ([32] ++ nm.data.toList)).length + 1 ≤ 1000000000 from by
  have q := HLL.out
  have e : (flat ((1, k0b) :: l0v nm.data.toList)).length = (k0b ++ ([32] ++ nm.data.toList)).length := by simp [flat, l0v]
  rw [hL1, List.length_append, e, List.length_singleton] at q
  rw [List.length_nil]
  omega)
 have HNZ := h_ (show TX ≠ [] from by
  rw [← HTX.out, hL1]; simp)
 clear hl hL1
 obtain ⟨b, hbe⟩ : ∃ b, b = w.heap.size + 1 := ⟨_, rfl⟩
 have HNE := h_ (show w.heap.size ≠ b from by omega)
 have HK0 := h_ (show WK w.heap.size b w ((w.alloc (.cells #[.string nm, .slice p1 cells.length c1, .slice p2 cores.length c2, .bool fa, k0, k1, k2, k3, k4, k5, .slice p3 tables.length c3, vPT, vPC, vPCo, vPI, .int .i64 pCond] 38)).alloc (.cells #[.pointer none, .slice none 0 0] 75)) from ⟨bl_ (bl_ (Below.refl _ _) _) _, fun k T cs fr _ hh _ => ((bl_ (bl_ (Below.refl w.heap.size w) (.cells #[.string nm, .slice p1 cells.length c1, .slice p2 cores.length c2, .bool fa, k0, k1, k2, k3, k4, k5, .slice p3 tables.length c3, vPT, vPC, vPCo, vPI, .int .i64 pCond] 38)) (.cells #[.pointer none, .slice none 0 0] 75)).block k (Array.getElem?_eq_some_iff.1 hh).1).trans hh⟩)
 have HK1 := h_ (WK.refl w.heap.size b ((w.alloc (.cells #[.string nm, .slice p1 cells.length c1, .slice p2 cores.length c2, .bool fa, k0, k1, k2, k3, k4, k5, .slice p3 tables.length c3, vPT, vPC, vPCo, vPI, .int .i64 pCond] 38)).alloc (.cells #[.pointer none, .slice none 0 0] 75)))
 have HW1 := h_ (show WB w.heap.size b (Lib.byteCells []) ((w.alloc (.cells #[.string nm, .slice p1 cells.length c1, .slice p2 cores.length c2, .bool fa, k0, k1, k2, k3, k4, k5, .slice p3 tables.length c3, vPT, vPC, vPCo, vPI, .int .i64 pCond] 38)).alloc (.cells #[.pointer none, .slice none 0 0] 75)) from by
  rw [hbe]
  refine Or.inl ⟨Nat.le_succ _, .slice none 0 0, by simpa using heap_alloc_new (w.alloc (.cells #[.string nm, .slice p1 cells.length c1, .slice p2 cores.length c2, .bool fa, k0, k1, k2, k3, k4, k5, .slice p3 tables.length c3, vPT, vPC, vPCo, vPI, .int .i64 pCond] 38)) (.cells #[.pointer none, .slice none 0 0] 75), World.ownsRow_nil _ _ _ _, by simp [Value.ownBlock]⟩)
 have HB1 := h_ (show w.heap.size ≤ ((w.alloc (.cells #[.string nm, .slice p1 cells.length c1, .slice p2 cores.length c2, .bool fa, k0, k1, k2, k3, k4, k5, .slice p3 tables.length c3, vPT, vPC, vPCo, vPI, .int .i64 pCond] 38)).alloc (.cells #[.pointer none, .slice none 0 0] 75)).heap.size from HK0.out.below.size)
 have HM1 := h_ (show Blk ((w.alloc (.cells #[.string nm, .slice p1 cells.length c1, .slice p2 cores.length c2, .bool fa, k0, k1, k2, k3, k4, k5, .slice p3 tables.length c3, vPT, vPC, vPCo, vPI, .int .i64 pCond] 38)).alloc (.cells #[.pointer none, .slice none 0 0] 75)) 38 w.heap.size [.string nm, .slice p1 cells.length c1, .slice p2 cores.length c2, .bool fa, k0, k1, k2, k3, k4, k5, .slice p3 tables.length c3, vPT, vPC, vPCo, vPI, .int .i64 pCond] from (Blk.new w _ _).alloc _)
 have HRT := h_ (fun (w2 : World) (k : WK w.heap.size b ((w.alloc (.cells #[.string nm, .slice p1 cells.length c1, .slice p2 cores.length c2, .bool fa, k0, k1, k2, k3, k4, k5, .slice p3 tables.length c3, vPT, vPC, vPCo, vPI, .int .i64 pCond] 38)).alloc (.cells #[.pointer none, .slice none 0 0] 75)) w2) => R3.below (HK0.out.trans k).below)
 have HRC := h_ (fun (w2 : World) (k : WK w.heap.size b ((w.alloc (.cells #[.string nm, .slice p1 cells.length c1, .slice p2 cores.length c2, .bool fa, k0, k1, k2, k3, k4, k5, .slice p3 tables.length c3, vPT, vPC, vPCo, vPI, .int .i64 pCond] 38)).alloc (.cells #[.pointer none, .slice none 0 0] 75)) w2) => R1.below (HK0.out.trans k).below)
 have HCB := h_ (fun (w2 : World) (k : WK w.heap.size b w w2) (a : Addr) (u : Value) (h : w.cell? a = some u) => cell_below h k.below)
 have HSB2 := h_ (fun (w2 : World) (k : WK w.heap.size b w w2) => k.below)
 clear R1 R2 R3
 unfold srcC
 dsimp only
 go_enter Tryz.func10, Tryz.ntmps10
 have hb0 := HM1.out.lt
 have m0 := HM1.out.cell 0
 simp only [gz_, gs_] at m0
 go_wp2_with fail
 clear m0 hb0
 have hz1 : ((w.alloc (.cells #[.string nm, .slice p1 cells.length c1, .slice p2 cores.length c2, .bool fa, k0, k1, k2, k3, k4, k5, .slice p3 tables.length c3, vPT, vPC, vPCo, vPI, .int .i64 pCond] 38)).alloc (.cells #[.pointer none, .slice none 0 0] 75)).heap.size = w.heap.size + 1 + 1 := by simp
 rw [← hz1, ← hbe]
 clear hz1 hbe
 generalize ((w.alloc (.cells #[.string nm, .slice p1 cells.length c1, .slice p2 cores.length c2, .bool fa, k0, k1, k2, k3, k4, k5, .slice p3 tables.length c3, vPT, vPC, vPCo, vPI, .int .i64 pCond] 38)).alloc (.cells #[.pointer none, .slice none 0 0] 75)) = w1 at *
 generalize hBe : w.heap.size = B at *
 have HSB := h_ hBe
 clear hBe
 have hb : Below w1.heap.size w1 (w1.alloc (.cells #[.string ⟨#[116, 101, 115, 116]⟩, .string (nm)] 9)) := bl_ (Below.refl _ _) _
 have HX1 := h_ (show Blk (w1.alloc (.cells #[.string ⟨#[116, 101, 115, 116]⟩, .string (nm)] 9)) 9 w1.heap.size [.string ⟨#[116, 101, 115, 116]⟩, .string (nm)] from Blk.new w1 _ _)
 have HW1 := h_ (HW1.out.keep hb)
 have HK1 := h_ (HK1.out.trans (WK.ofBelow hb (Nat.le_trans HB1.out HK1.out.below.size)))
 clear hb
 have HL2 := h_ (show Calls Tryz.prog 27 #[.pointer (some ⟨b, 0, none⟩), .slice (some ⟨w1.heap.size, 0, none⟩) 2 2] (w1.alloc (.cells #[.string ⟨#[116, 101, 115, 116]⟩, .string (nm)] 9)) _ from e0u B b _ _ _ [⟨#[116, 101, 115, 116]⟩, nm] (w1.alloc (.cells #[.string ⟨#[116, 101, 115, 116]⟩, .string (nm)] 9)) HW1.out HX1.out (by simp) (k0b ++ ([32] ++ nm.data.toList)) (by exact j1m k0b nm.data.toList) (by exact HLN.out) (Nat.le_trans HB1.out HK1.out.below.size))
 refine HL2.out.mono ?_
 rintro e w102 ⟨rfl, hw, hk⟩
 have HW2 := h_ (show WB B b (Lib.byteCells L1) w102 from by have q := hw; rw [HL1.out] at q; exact q)
 have HK2 := h_ (HK1.out.trans hk)
 clear hw hk HL2
 have HMx := h_ (HM1.out.wk HK2.out HNE.out (by decide))
 have m10 := HMx.out.cell 10
 simp only [gz_, gs_] at m10
 have hb0 := HMx.out.lt
 go_wp2_with fail
 clear m10 hb0 HMx
 go_loopw [22] (fun a wr => ∃ k : Nat, k ≤ tables.length ∧ a = .int .i64 k ∧ Hid (WB B b (Lib.byteCells (L1 ++ L10 ((tables.take k).map (fun v => flat ((1, a0s) :: b0l v))))) wr) ∧ Hid (WK B b w1 wr)) (fun a _ => tables.length - (intOf a).toNat)
 case atStart => exact ⟨0, by omega, rfl, h_ (by have q := HW2.out; simpa [j0x] using q), HK2⟩
 case round =>
  obtain ⟨k, hk, rfl, HWr, HKr⟩ := hrel
  have hsz := HS.out.tables
  dsimp only [gsrc] at hsz
  by_cases hkl : k < tables.length
  ·have hk0 : (0 : Int) ≤ k := by omega
   have hkn : (k : Int) < tables.length := by omega
   obtain ⟨g, off, rfl, hcell⟩ := k0g (HRT.out wr HKr.out) hkl
   have hvl := HOK.out.tables (tables.getD k 0) (by rw [List.getD_eq_getElem?_getD, List.getElem?_eq_getElem hkl]; exact List.getElem_mem hkl)
   have HT := h_ (i0l (fun v => flat ((1, a0s) :: b0l v)) hkl)
   rw [show tables[k] = tables.getD k 0 by simp [List.getD, List.getElem?_eq_getElem hkl]] at HT
   have HLE := h_ (l0b (fun v => flat ((1, a0s) :: b0l v)) tables (k + 1))
   generalize tables.getD k 0 = v at *
   have HHV := h_ (fun w2 => p0j v w2 hvl)
   clear hvl
   have HLT := h_ (show (L1 ++ L10 ((tables.take k).map (fun v => flat ((1, a0s) :: b0l v)))).length + (a0s ++ ([32] ++ hexL v)).length + 1 ≤ 1000000000 ∧ (L1 ++ L10 ((tables.take k).map (fun v => flat ((1, a0s) :: b0l v)))) ++ ((a0s ++ ([32] ++ hexL v)) ++ [10]) = L1 ++ L10 ((tables.take (k + 1)).map (fun v => flat ((1, a0s) :: b0l v))) from by
    have e : (L1 ++ L10 ((tables.take k).map (fun v => flat ((1, a0s) :: b0l v)))) ++ ((a0s ++ ([32] ++ hexL v)) ++ [10]) = L1 ++ L10 ((tables.take (k + 1)).map (fun v => flat ((1, a0s) :: b0l v))) := by
     rw [HT.out]; simp [flat, b0l]
    refine ⟨?_, e⟩
    have q := congrArg List.length e
    have q2 := HLL.out
    have q3 := HLE.out
    rw [List.length_append, List.length_append] at q
    simp only [List.length_append, List.length_singleton] at q q2 q3 ⊢
    omega)
   go_wp2_with fail
   refine (HHV.out wr).mono ?_
   rintro e w103 ⟨rfl, hb⟩
   have HW3 := h_ (HWr.out.keep hb)
   have HK3 := h_ (HKr.out.trans (WK.ofBelow hb (Nat.le_trans HB1.out HKr.out.below.size)))
   clear hb
   have hb : Below w103.heap.size w103 (w103.alloc (.cells #[.string ⟨#[116, 97, 98, 108, 101]⟩, .string (ba (hexL v))] 9)) := bl_ (Below.refl _ _) _
   have HX4 := h_ (show Blk (w103.alloc (.cells #[.string ⟨#[116, 97, 98, 108, 101]⟩, .string (ba (hexL v))] 9)) 9 w103.heap.size [.string ⟨#[116, 97, 98, 108, 101]⟩, .string (ba (hexL v))] from Blk.new w103 _ _)
   have HW4 := h_ (HW3.out.keep hb)
   have HK4 := h_ (HK3.out.trans (WK.ofBelow hb (Nat.le_trans HB1.out HK3.out.below.size)))
   clear hb
   have HL5 := h_ (show Calls Tryz.prog 27 #[.pointer (some ⟨b, 0, none⟩), .slice (some ⟨w103.heap.size, 0, none⟩) 2 2] (w103.alloc (.cells #[.string ⟨#[116, 97, 98, 108, 101]⟩, .string (ba (hexL v))] 9)) _ from e0u B b _ _ _ [⟨#[116, 97, 98, 108, 101]⟩, ba (hexL v)] (w103.alloc (.cells #[.string ⟨#[116, 97, 98, 108, 101]⟩, .string (ba (hexL v))] 9)) HW4.out HX4.out (by simp) (a0s ++ ([32] ++ hexL v)) (by exact j1m a0s (hexL v)) (by have := HLT.out.1; exact this) (Nat.le_trans HB1.out HK4.out.below.size))
   go_wp2_with fail
   refine HL5.out.mono ?_
   rintro e w105 ⟨rfl, hw, hk⟩
   have HW5 := h_ (show WB B b (Lib.byteCells (L1 ++ L10 ((tables.take (k + 1)).map (fun v => flat ((1, a0s) :: b0l v))))) w105 from by have q := hw; rw [HLT.out.2] at q; exact q)
   have HK5 := h_ (HK4.out.trans hk)
   clear hw hk HL5
   go_wp2_with fail
   go_roundw
   case rel => exact ⟨k + 1, by omega, by go_num, HW5, HK5⟩
   case measure => simp [intOf] <;> omega
  ·obtain rfl : k = tables.length := by omega
   rw [List.take_length] at HWr
   have HMx := h_ (HM1.out.wk HKr.out HNE.out (by decide))
   have m1 := HMx.out.cell 1
   simp only [gz_, gs_] at m1
   have hb0 := HMx.out.lt
   have HW8 := HWr
   have HK8 := HKr
   clear HWr HKr hkl
   go_wp2_with fail
   clear m1 hb0 HMx
   go_loopw [36] (fun i wr => ∃ k : Nat, k ≤ cells.length ∧ i = .int .i64 k ∧ Hid (WB B b (Lib.byteCells ((L1 ++ L10 (tables.map (fun v => flat ((1, a0s) :: b0l v)))) ++ L10 ((cells.take k).map (fun p => flat ((1, c0v) :: d0j p.1 p.2))))) wr) ∧ Hid (WK B b w1 wr)) (fun i _ => cells.length - (intOf i).toNat)
   case atStart => exact ⟨0, by omega, rfl, h_ (by have q := HW8.out; simpa [j0x] using q), HK8⟩
   case round =>
    obtain ⟨k, hk, rfl, HWr, HKr⟩ := hrel
    have hsz := HS.out.cells
    dsimp only [gsrc] at hsz
    by_cases hkl : k < cells.length
    ·have hk0 : (0 : Int) ≤ k := by omega
     have hkn : (k : Int) < cells.length := by omega
     obtain ⟨g, off, rfl, a0, a1⟩ := l0u (HRC.out wr HKr.out) hkl
     have e0 : (cells.map Prod.fst).getD k 0 = cells[k].1 := by simp [List.getD, List.getElem?_eq_getElem hkl]
     have e1 : (cells.map Prod.snd).getD k 0 = cells[k].2 := by simp [List.getD, List.getElem?_eq_getElem hkl]
     rw [e0] at a0
     rw [e1] at a1
     clear e0 e1
     have hvl := HOK.out.cells cells[k] (List.getElem_mem hkl)
     have HT := h_ (i0l (fun p => flat ((1, c0v) :: d0j p.1 p.2)) hkl)
     have HLE := h_ (l0b (fun p => flat ((1, c0v) :: d0j p.1 p.2)) cells (k + 1))
     generalize cells[k] = y at *
     obtain ⟨a, v⟩ := y
     dsimp only at a0 a1 hvl HT
     have HHA := h_ (fun w2 => p0j a w2 hvl.1)
     have HHV := h_ (fun w2 => p0j v w2 hvl.2)
     clear hvl
     have HLT := h_ (show ((L1 ++ L10 (tables.map (fun v => flat ((1, a0s) :: b0l v)))) ++ L10 ((cells.take k).map (fun p => flat ((1, c0v) :: d0j p.1 p.2)))).length + (c0v ++ ([32] ++ (hexL a ++ ([32] ++ ([61] ++ ([32] ++ hexL v)))))).length + 1 ≤ 1000000000 ∧ ((L1 ++ L10 (tables.map (fun v => flat ((1, a0s) :: b0l v)))) ++ L10 ((cells.take k).map (fun p => flat ((1, c0v) :: d0j p.1 p.2)))) ++ ((c0v ++ ([32] ++ (hexL a ++ ([32] ++ ([61] ++ ([32] ++ hexL v)))))) ++ [10]) = (L1 ++ L10 (tables.map (fun v => flat ((1, a0s) :: b0l v)))) ++ L10 ((cells.take (k + 1)).map (fun p => flat ((1, c0v) :: d0j p.1 p.2))) from by
      have e : ((L1 ++ L10 (tables.map (fun v => flat ((1, a0s) :: b0l v)))) ++ L10 ((cells.take k).map (fun p => flat ((1, c0v) :: d0j p.1 p.2)))) ++ ((c0v ++ ([32] ++ (hexL a ++ ([32] ++ ([61] ++ ([32] ++ hexL v)))))) ++ [10]) = (L1 ++ L10 (tables.map (fun v => flat ((1, a0s) :: b0l v)))) ++ L10 ((cells.take (k + 1)).map (fun p => flat ((1, c0v) :: d0j p.1 p.2))) := by
       rw [HT.out]; simp [flat, d0j]
      refine ⟨?_, e⟩
      have q := congrArg List.length e
      have q2 := HLL.out
      have q3 := HLE.out
      rw [List.length_append, List.length_append] at q
      simp only [List.length_append, List.length_singleton] at q q2 q3 ⊢
      omega)
     have hb : Below wr.heap.size wr (wr.alloc (.cells #[.int .u64 (a : Nat), .int .u64 (v : Nat)] 79)) := bl_ (Below.refl _ _) _
     have HW6 := h_ (HWr.out.keep hb)
     have HK6 := h_ (HKr.out.trans (WK.ofBelow hb (Nat.le_trans HB1.out HKr.out.below.size)))
     have HD2 := h_ (Blk.new wr 79 [.int .u64 (a : Nat), .int .u64 (v : Nat)])
     dsimp only [List.toArray] at HD2
     have HBc := h_ (Nat.le_trans HB1.out HK6.out.below.size)
     have HNc := h_ (show wr.heap.size ≠ b from by have := HWr.out.lt; omega)
     clear hb
     go_wp2_with fail
     generalize wr.alloc (.cells #[.int .u64 (a : Nat), .int .u64 (v : Nat)] 79) = w2 at *
     generalize wr.heap.size = h2 at *
     clear a0 a1
     have HKc := h_ (WK.refl B b w2)
     refine wp_region_held_drew (S := (fun w' => w'.cell? ⟨h2, 0, none⟩ = some (.int .u64 (a : Nat)) ∧ w'.cell? ⟨h2, 1, none⟩ = some (.int .u64 (v : Nat)))) (by kernel_rfl) (by (try dsimp only); exact ⟨(HD2.out.wk HKc.out HNc.out (by decide)).cell 0, (HD2.out.wk HKc.out HNc.out (by decide)).cell 1⟩) (fun hHeld => ?_)
     refine tk1 0 40 rfl ?_
     simp only [Act.put, tka, tk0, tkS]
     refine tk1 1 41 rfl ?_
     simp only [Act.put, tka, tk0, tkS]
     refine tk1 2 42 rfl ?_
     simp only [Act.put, tka, tk0, tkS]
     refine tk1 4 44 rfl ?_
     simp only [Act.put, tka, tk0, tkS]
     refine tk1 5 45 rfl ?_
     simp only [Act.put, tka, tk0, tkS]
     refine wpAnyH_ready (rs := [3]) (by kernel_rfl) (by simp) ?_
     refine AllReadyH.cons (o := ⟨some 43, _, _, _, _, _⟩) rfl (fun K hK => ?_) AllReadyH.nil
     go_simp
     go_at_call 28
     refine (HHA.out w2.drew).mono ?_
     rintro e w107 ⟨rfl, hb⟩
     have HW7 := h_ (WB.keep (w := w2.drew) (show WB B b _ w2.drew from HW6.out) hb)
     have HK7 := h_ ((HKc.out.trans (WK.drew B b w2)).trans (WK.ofBelow (w := w2.drew) hb (Nat.le_trans HBc.out HKc.out.below.size)))
     clear hb
     refine hK.out _ _ (by (try dsimp only); exact ⟨(HD2.out.wk HK7.out HNc.out (by decide)).cell 0, (HD2.out.wk HK7.out HNc.out (by decide)).cell 1⟩) ?_
     clear hK K hHeld
     intro hHeld
     try simp only [Act.put, tka, tk0, tkS]
     refine wpAnyH_ready (rs := [6]) (by kernel_rfl) (by simp) ?_
     refine AllReadyH.cons (o := ⟨some 46, _, _, _, _, _⟩) rfl (fun K hK => ?_) AllReadyH.nil
     go_simp
     go_at_call 28
     refine (HHV.out w107).mono ?_
     rintro e w108 ⟨rfl, hb⟩
     have HW8 := h_ (HW7.out.keep hb)
     have HK8 := h_ (HK7.out.trans (WK.ofBelow hb (Nat.le_trans HBc.out HK7.out.below.size)))
     clear hb
     refine hK.out _ _ (by (try dsimp only); exact ⟨(HD2.out.wk HK8.out HNc.out (by decide)).cell 0, (HD2.out.wk HK8.out HNc.out (by decide)).cell 1⟩) ?_
     clear hK K hHeld
     intro hHeld
     try simp only [Act.put, tka, tk0, tkS]
     refine wpAnyH_ready (rs := [7]) (by kernel_rfl) (by simp) ?_
     refine AllReadyH.cons (o := ⟨some 47, _, _, _, _, _⟩) rfl (fun K hK => ?_) AllReadyH.nil
     go_simp
     have hb : Below w108.heap.size w108 (w108.alloc (.cells #[.string ⟨#[99, 101, 108, 108]⟩, .string (ba (hexL a)), .string ⟨#[61]⟩, .string (ba (hexL v))] 9)) := bl_ (Below.refl _ _) _
     have HX9 := h_ (show Blk (w108.alloc (.cells #[.string ⟨#[99, 101, 108, 108]⟩, .string (ba (hexL a)), .string ⟨#[61]⟩, .string (ba (hexL v))] 9)) 9 w108.heap.size [.string ⟨#[99, 101, 108, 108]⟩, .string (ba (hexL a)), .string ⟨#[61]⟩, .string (ba (hexL v))] from Blk.new w108 _ _)
     have HW9 := h_ (HW8.out.keep hb)
     have HK9 := h_ (HK8.out.trans (WK.ofBelow hb (Nat.le_trans HBc.out HK8.out.below.size)))
     clear hb
     refine hK.out _ _ (by (try dsimp only); exact ⟨(HD2.out.wk HK9.out HNc.out (by decide)).cell 0, (HD2.out.wk HK9.out HNc.out (by decide)).cell 1⟩) ?_
     clear hK K hHeld
     intro hHeld
     try simp only [Act.put, tka, tk0, tkS]
     refine wpAnyH_ready (rs := [8]) (by kernel_rfl) (by simp) ?_
     refine AllReadyH.cons (o := ⟨some 48, _, _, _, _, _⟩) rfl (fun K hK => ?_) AllReadyH.nil
     go_simp
     have HL10 := h_ (show Calls Tryz.prog 27 #[.pointer (some ⟨b, 0, none⟩), .slice (some ⟨w108.heap.size, 0, none⟩) 4 4] (w108.alloc (.cells #[.string ⟨#[99, 101, 108, 108]⟩, .string (ba (hexL a)), .string ⟨#[61]⟩, .string (ba (hexL v))] 9)) _ from e0u B b _ _ _ [⟨#[99, 101, 108, 108]⟩, ba (hexL a), ⟨#[61]⟩, ba (hexL v)] (w108.alloc (.cells #[.string ⟨#[99, 101, 108, 108]⟩, .string (ba (hexL a)), .string ⟨#[61]⟩, .string (ba (hexL v))] 9)) HW9.out HX9.out (by simp) (c0v ++ ([32] ++ (hexL a ++ ([32] ++ ([61] ++ ([32] ++ hexL v)))))) (by exact n1m c0v (hexL a) [61] (hexL v)) (by have := HLT.out.1; exact this) (Nat.le_trans HBc.out HK9.out.below.size))
     go_at_call 27
     refine HL10.out.mono ?_
     rintro e w110 ⟨rfl, hw, hk⟩
     have HW10 := h_ (show WB B b (Lib.byteCells ((L1 ++ L10 (tables.map (fun v => flat ((1, a0s) :: b0l v)))) ++ L10 ((cells.take (k + 1)).map (fun p => flat ((1, c0v) :: d0j p.1 p.2))))) w110 from by have q := hw; rw [HLT.out.2] at q; exact q)
     have HK10 := h_ (HK9.out.trans hk)
     clear hw hk HL10
     refine hK.out _ _ (by (try dsimp only); exact ⟨(HD2.out.wk HK10.out HNc.out (by decide)).cell 0, (HD2.out.wk HK10.out HNc.out (by decide)).cell 1⟩) ?_
     clear hK K hHeld
     intro hHeld
     try simp only [Act.put, tka, tk0, tkS]
     refine wpAnyH_done (by kernel_rfl) ?_ _
     clear hHeld
     have HWz := HW10
     have HKz := h_ (HK6.out.trans HK10.out)
     go_wp2_with fail
     go_roundw
     case rel => exact ⟨k + 1, by omega, by go_num, HWz, HKz⟩
     case measure => simp [intOf] <;> omega
    ·obtain rfl : k = cells.length := by omega
     rw [List.take_length] at HWr
     have HMx := h_ (HM1.out.wk HKr.out HNE.out (by decide))
     have m2 := HMx.out.cell 2
     simp only [gz_, gs_] at m2
     have hb0 := HMx.out.lt
     have HW9 := HWr
     have HK9 := HKr
     clear HWr HKr hkl
     go_wp2_with fail
     clear m2 hb0 HMx
     go_loopw [54] (fun i wr => ∃ k : Nat, k ≤ cores.length ∧ i = .int .i64 k ∧ Hid (WB B b (Lib.byteCells (((L1 ++ L10 (tables.map (fun v => flat ((1, a0s) :: b0l v)))) ++ L10 (cells.map (fun p => flat ((1, c0v) :: d0j p.1 p.2)))) ++ L10 (a0n 0 (cores.take k)))) wr) ∧ Hid (WK B b w1 wr)) (fun i _ => cores.length - (intOf i).toNat)
     case atStart => exact ⟨0, by omega, rfl, h_ (by have q := HW9.out; simpa [j0x, a0n] using q), HK9⟩
     case round =>
      obtain ⟨k, hk, rfl, HWr, HKr⟩ := hrel
      have hsz := HOK.out.len
      dsimp only at hsz
      by_cases hkl : k < cores.length
      ·have hk0 : (0 : Int) ≤ k := by omega
       have hkn : (k : Int) < cores.length := by omega
       obtain ⟨g, off, pr, cr, pc, cc, ph, ch, rfl, b0, b1, b2, b3, b4, Rr, Rc, Rh⟩ := HG0.out.coreCells rfl hkl
       dsimp only at b0 b1 b2 b3 b4 Rr Rc Rh
       have HBr := h_ (HK0.out.trans HKr.out).below
       have a0 := HCB.out wr (HK0.out.trans HKr.out) _ _ b0
       have a1 := HCB.out wr (HK0.out.trans HKr.out) _ _ b1
       have a2 := HCB.out wr (HK0.out.trans HKr.out) _ _ b2
       have a3 := HCB.out wr (HK0.out.trans HKr.out) _ _ b3
       have a4 := HCB.out wr (HK0.out.trans HKr.out) _ _ b4
       clear b0 b1 b2 b3 b4
       have HCO := h_ (HOK.out.cores cores[k] (List.getElem_mem hkl))
       have HCS := h_ (HS.out.code (l0d cores[k]) (show l0d cores[k] ∈ cores.map l0d from List.mem_map_of_mem (List.getElem_mem hkl)))
       have HT := h_ (q0f hkl)
       have HLE := h_ (u0y cores (k + 1))
       generalize cores[k] = y at *
       obtain ⟨regs, space, table, code, hand⟩ := y
       dsimp only [l0d] at a0 a1 a2 a3 a4 Rr Rc Rh HT HCS
       have HLT := h_ (show (((L1 ++ L10 (tables.map (fun v => flat ((1, a0s) :: b0l v)))) ++ L10 (cells.map (fun p => flat ((1, c0v) :: d0j p.1 p.2)))) ++ L10 (a0n 0 (cores.take k))).length + (L10 (d0u k ⟨regs, space, table, code, hand⟩)).length + 1 ≤ 100000000 ∧ (((L1 ++ L10 (tables.map (fun v => flat ((1, a0s) :: b0l v)))) ++ L10 (cells.map (fun p => flat ((1, c0v) :: d0j p.1 p.2)))) ++ L10 (a0n 0 (cores.take k))) ++ L10 (d0u k ⟨regs, space, table, code, hand⟩) = ((L1 ++ L10 (tables.map (fun v => flat ((1, a0s) :: b0l v)))) ++ L10 (cells.map (fun p => flat ((1, c0v) :: d0j p.1 p.2)))) ++ L10 (a0n 0 (cores.take (k + 1))) from by
        have e : (((L1 ++ L10 (tables.map (fun v => flat ((1, a0s) :: b0l v)))) ++ L10 (cells.map (fun p => flat ((1, c0v) :: d0j p.1 p.2)))) ++ L10 (a0n 0 (cores.take k))) ++ L10 (d0u k ⟨regs, space, table, code, hand⟩) = ((L1 ++ L10 (tables.map (fun v => flat ((1, a0s) :: b0l v)))) ++ L10 (cells.map (fun p => flat ((1, c0v) :: d0j p.1 p.2)))) ++ L10 (a0n 0 (cores.take (k + 1))) := by
         rw [HT.out, e0d, List.append_assoc _ (L10 (a0n 0 (cores.take k)))]
        refine ⟨?_, e⟩
        have q := congrArg List.length e
        have q2 := HLL.out
        have q3 := HLE.out
        simp only [List.length_append] at q q2 q3 ⊢
        omega)
       have hb : Below wr.heap.size wr (wr.alloc (.cells #[.slice pr regs.length cr, .int .i64 (space : Nat), .int .u64 (table : Nat), .slice pc code.length cc, .slice ph hand.length ch] 82)) := bl_ (Below.refl _ _) _
       have HW11 := h_ (HWr.out.keep hb)
       have HK11 := h_ (HKr.out.trans (WK.ofBelow hb (Nat.le_trans HB1.out HKr.out.below.size)))
       have HD2 := h_ (Blk.new wr 82 [.slice pr regs.length cr, .int .i64 (space : Nat), .int .u64 (table : Nat), .slice pc code.length cc, .slice ph hand.length ch])
       dsimp only [List.toArray] at HD2
       have HWC := h_ (fun (w2 : World) (l : List UInt8) (h0 : Below w.heap.size w w2) (h : WB w.heap.size b (Lib.byteCells l) w2) (hln : l.length + (L10 (d0u k ⟨regs, space, table, code, hand⟩)).length + 1 ≤ 100000000) => c1b w w2 b k l (cr := cr) (cc := cc) (ch := ch) h0 h Rr Rc Rh (by omega) ⟨HCS.out.2.2, HCS.out.1, HCS.out.2.1⟩ HCO.out.regs HCO.out.space HCO.out.table HCO.out.code HCO.out.hand hln)
       rw [HSB.out] at HWC
       have HWC2 := h_ (HWC.out (wr.alloc (.cells #[.slice pr regs.length cr, .int .i64 (space : Nat), .int .u64 (table : Nat), .slice pc code.length cc, .slice ph hand.length ch] 82)) (((L1 ++ L10 (tables.map (fun v => flat ((1, a0s) :: b0l v)))) ++ L10 (cells.map (fun p => flat ((1, c0v) :: d0j p.1 p.2)))) ++ L10 (a0n 0 (cores.take k))) (HSB2.out _ (HK0.out.trans HK11.out)) HW11.out HLT.out.1)
       clear hb Rr Rc Rh HWC
       go_wp2_with fail
       clear a0 a1 a2 a3 a4
       refine HWC2.out.mono ?_
       rintro e w3 ⟨rfl, hw, hk2⟩
       rw [HLT.out.2] at hw
       have HW3 := h_ hw
       have HK3 := h_ (HK11.out.trans hk2)
       clear hw hk2 HWC2
       go_wp2_with fail
       go_roundw
       case rel => exact ⟨k + 1, by omega, by go_num, HW3, HK3⟩
       case measure => simp [intOf] <;> omega
      ·obtain rfl : k = cores.length := by omega
       rw [List.take_length] at HWr
       have HMx := h_ (HM1.out.wk HKr.out HNE.out (by decide))
       have m3 := HMx.out.cell 3
       have m4 := HMx.out.cell 4
       have m5 := HMx.out.cell 5
       have m6 := HMx.out.cell 6
       have m7 := HMx.out.cell 7
       have m8 := HMx.out.cell 8
       have m9 := HMx.out.cell 9
       simp only [gz_, gs_] at m3 m4 m5 m6 m7 m8 m9
       have hb0 := HMx.out.lt
       have HW7 := HWr
       have HK7 := HKr
       clear HWr HKr hkl
       obtain ⟨Sc, hcond⟩ := HG0.out.cond
       have HCP := h_ (fun (w2 : World) (k : WK B b w w2) => e1a cond w2 Sc _ (by have := HOK.out.count; dsimp only at this; omega) (hcond.below (by rw [HSB.out]; exact HSB2.out _ k)))
       clear hcond
       dsimp only [condC, List.toArray] at HCP
       cases fa with
       | false =>
        have HLE := h_ (show ((((L1 ++ L10 (tables.map (fun v => flat ((1, a0s) :: b0l v)))) ++ L10 (cells.map (fun p => flat ((1, c0v) :: d0j p.1 p.2)))) ++ L10 (a0n 0 cores))).length + (j0p ++ ([32] ++ a0m cond)).length + 1 ≤ 1000000000 ∧ ((((L1 ++ L10 (tables.map (fun v => flat ((1, a0s) :: b0l v)))) ++ L10 (cells.map (fun p => flat ((1, c0v) :: d0j p.1 p.2)))) ++ L10 (a0n 0 cores))) ++ ((j0p ++ ([32] ++ a0m cond)) ++ [10]) = TX from by
         have e : ((((L1 ++ L10 (tables.map (fun v => flat ((1, a0s) :: b0l v)))) ++ L10 (cells.map (fun p => flat ((1, c0v) :: d0j p.1 p.2)))) ++ L10 (a0n 0 cores))) ++ ((j0p ++ ([32] ++ a0m cond)) ++ [10]) = TX := by rw [← HTX.out]; unfold i0o; simp [s0m]
         refine ⟨?_, e⟩
         have q := congrArg List.length e
         have q2 := HLT0.out
         simp only [List.length_append, List.length_singleton] at q ⊢
         omega)
        go_wp2_with fail
        refine (HCP.out wr (HK0.out.trans HK7.out)).mono ?_
        rintro e w113 ⟨rfl, hb⟩
        have HW13 := h_ (HW7.out.keep hb)
        have HK13 := h_ (HK7.out.trans (WK.ofBelow hb (Nat.le_trans HB1.out HK7.out.below.size)))
        clear hb
        have hb : Below w113.heap.size w113 (w113.alloc (.cells #[.string ⟨#[101, 120, 105, 115, 116, 115]⟩, .string (ba (a0m cond))] 9)) := bl_ (Below.refl _ _) _
        have HX14 := h_ (show Blk (w113.alloc (.cells #[.string ⟨#[101, 120, 105, 115, 116, 115]⟩, .string (ba (a0m cond))] 9)) 9 w113.heap.size [.string ⟨#[101, 120, 105, 115, 116, 115]⟩, .string (ba (a0m cond))] from Blk.new w113 _ _)
        have HW14 := h_ (HW13.out.keep hb)
        have HK14 := h_ (HK13.out.trans (WK.ofBelow hb (Nat.le_trans HB1.out HK13.out.below.size)))
        clear hb
        have HL15 := h_ (show Calls Tryz.prog 27 #[.pointer (some ⟨b, 0, none⟩), .slice (some ⟨w113.heap.size, 0, none⟩) 2 2] (w113.alloc (.cells #[.string ⟨#[101, 120, 105, 115, 116, 115]⟩, .string (ba (a0m cond))] 9)) _ from e0u B b _ _ _ [⟨#[101, 120, 105, 115, 116, 115]⟩, ba (a0m cond)] (w113.alloc (.cells #[.string ⟨#[101, 120, 105, 115, 116, 115]⟩, .string (ba (a0m cond))] 9)) HW14.out HX14.out (by simp) (j0p ++ ([32] ++ a0m cond)) (by exact j1m j0p (a0m cond)) (by exact HLE.out.1) (Nat.le_trans HB1.out HK14.out.below.size))
        go_wp2_with fail
        refine HL15.out.mono ?_
        rintro e w115 ⟨rfl, hw, hk⟩
        have HW15 := h_ (show WB B b (Lib.byteCells TX) w115 from by have q := hw; rw [HLE.out.2] at q; exact q)
        have HK15 := h_ (HK14.out.trans hk)
        clear hw hk HL15
        have HST := h_ (o0l B b TX w115 HW15.out HNZ.out)
        go_wp2_with fail
        refine HST.out.mono ?_
        rintro e w9 ⟨rfl, hb9⟩
        have HB9 := h_ (show Below B w w9 from (HK0.out.trans HK15.out).below.trans hb9)
        clear hb9
        go_wp2_with fail
        go_ret
        exact ⟨rfl, by rw [HSB.out]; exact HB9.out⟩
       | true =>
        have HLE := h_ (show ((((L1 ++ L10 (tables.map (fun v => flat ((1, a0s) :: b0l v)))) ++ L10 (cells.map (fun p => flat ((1, c0v) :: d0j p.1 p.2)))) ++ L10 (a0n 0 cores))).length + (j0o ++ ([32] ++ a0m cond)).length + 1 ≤ 1000000000 ∧ ((((L1 ++ L10 (tables.map (fun v => flat ((1, a0s) :: b0l v)))) ++ L10 (cells.map (fun p => flat ((1, c0v) :: d0j p.1 p.2)))) ++ L10 (a0n 0 cores))) ++ ((j0o ++ ([32] ++ a0m cond)) ++ [10]) = TX from by
         have e : ((((L1 ++ L10 (tables.map (fun v => flat ((1, a0s) :: b0l v)))) ++ L10 (cells.map (fun p => flat ((1, c0v) :: d0j p.1 p.2)))) ++ L10 (a0n 0 cores))) ++ ((j0o ++ ([32] ++ a0m cond)) ++ [10]) = TX := by rw [← HTX.out]; unfold i0o; simp [s0m]
         refine ⟨?_, e⟩
         have q := congrArg List.length e
         have q2 := HLT0.out
         simp only [List.length_append, List.length_singleton] at q ⊢
         omega)
        go_wp2_with fail
        refine (HCP.out wr (HK0.out.trans HK7.out)).mono ?_
        rintro e w117 ⟨rfl, hb⟩
        have HW17 := h_ (HW7.out.keep hb)
        have HK17 := h_ (HK7.out.trans (WK.ofBelow hb (Nat.le_trans HB1.out HK7.out.below.size)))
        clear hb
        have hb : Below w117.heap.size w117 (w117.alloc (.cells #[.string ⟨#[102, 111, 114, 97, 108, 108]⟩, .string (ba (a0m cond))] 9)) := bl_ (Below.refl _ _) _
        have HX18 := h_ (show Blk (w117.alloc (.cells #[.string ⟨#[102, 111, 114, 97, 108, 108]⟩, .string (ba (a0m cond))] 9)) 9 w117.heap.size [.string ⟨#[102, 111, 114, 97, 108, 108]⟩, .string (ba (a0m cond))] from Blk.new w117 _ _)
        have HW18 := h_ (HW17.out.keep hb)
        have HK18 := h_ (HK17.out.trans (WK.ofBelow hb (Nat.le_trans HB1.out HK17.out.below.size)))
        clear hb
        have HL19 := h_ (show Calls Tryz.prog 27 #[.pointer (some ⟨b, 0, none⟩), .slice (some ⟨w117.heap.size, 0, none⟩) 2 2] (w117.alloc (.cells #[.string ⟨#[102, 111, 114, 97, 108, 108]⟩, .string (ba (a0m cond))] 9)) _ from e0u B b _ _ _ [⟨#[102, 111, 114, 97, 108, 108]⟩, ba (a0m cond)] (w117.alloc (.cells #[.string ⟨#[102, 111, 114, 97, 108, 108]⟩, .string (ba (a0m cond))] 9)) HW18.out HX18.out (by simp) (j0o ++ ([32] ++ a0m cond)) (by exact j1m j0o (a0m cond)) (by exact HLE.out.1) (Nat.le_trans HB1.out HK18.out.below.size))
        go_wp2_with fail
        refine HL19.out.mono ?_
        rintro e w119 ⟨rfl, hw, hk⟩
        have HW19 := h_ (show WB B b (Lib.byteCells TX) w119 from by have q := hw; rw [HLE.out.2] at q; exact q)
        have HK19 := h_ (HK18.out.trans hk)
        clear hw hk HL19
        have HST := h_ (o0l B b TX w119 HW19.out HNZ.out)
        go_wp2_with fail
        refine HST.out.mono ?_
        rintro e w9 ⟨rfl, hb9⟩
        have HB9 := h_ (show Below B w w9 from (HK0.out.trans HK19.out).below.trans hb9)
        clear hb9
        go_wp2_with fail
        go_ret
        exact ⟨rfl, by rw [HSB.out]; exact HB9.out⟩
end
section
open Go.RowKit
def nzN (rs : List Nat) : Nat := (rs.filter fun v => decide (¬ v = 0)).length
def j1v (l : List Ins) : Nat := if l = [] then 0 else 1 + l.length
def s0f (c : CoreA) : Nat := 1 + nzN c.regs + c.code.length + j1v c.hand
def h0y (l : List CoreA) : Nat := (l.map s0f).sum
def srcW (x : SrcA) : Nat := x.tables.length + x.cells.length + h0y x.cores
theorem g0k (a b : List CoreA) : h0y (a ++ b) = h0y a + h0y b := by simp [h0y]
theorem g0j (c : CoreA) : h0y [c] = s0f c := by simp [h0y]
theorem o0z : ∀ (rs : List Nat) (k : Nat), (a0t rs k).length = nzN rs
 | [], _ => rfl
 | v :: rs, k => by
  unfold a0t
  rw [List.length_append, o0z rs (k + 1)]
  unfold nzN
  by_cases h : v = 0
  ·rw [if_pos h, List.filter_cons_of_neg (by simp [h])]; simp
  ·rw [if_neg h, List.filter_cons_of_pos (by simp [h])]; simp; omega
theorem u0j (i : Nat) (c : CoreA) : (d0u i c).length = s0f c := by
 unfold d0u s0f m0c j1v
 rw [List.length_cons, List.length_append, List.length_append, o0z, List.length_map]
 split
 ·simp; omega
 ·simp; omega
theorem m0g : ∀ (cs : List CoreA) (i : Nat), (a0n i cs).length = h0y cs
 | [], _ => rfl
 | c :: cs, i => by
  unfold a0n
  rw [List.length_append, u0j, m0g cs (i + 1)]
  simp [h0y]
theorem r0t (x : SrcA) : (h0s x).length = srcW x + 2 := by
 unfold h0s srcW
 simp only [List.length_cons, List.length_append, List.length_map, m0g, List.length_nil]
 omega
def v0z (x : SrcA) : Bool := match x.cores.getLast? with | some c => c.hand.isEmpty | none => false
def k0r (x : SrcA) : Nat := if x.after = 3 ∧ v0z x = true then 1 else 0
theorem k1q (x : SrcA) : k0r x ≤ 1 := by unfold k0r; split <;> omega
theorem s0i {x : SrcA} (h : ¬ x.after = 3) : k0r x = 0 := by unfold k0r; rw [if_neg (fun e => h e.1)]
def x0b (x : SrcA) : Prop := x.cores = [] ∨ x.after = 2 ∨ x.after = 3 ∨ x.after = 4
theorem n0y (a : Nat) (l : List Nat) : nzN (a :: l) = (if a = 0 then 0 else 1) + nzN l := by
 unfold nzN
 by_cases h : a = 0
 ·rw [if_pos h, List.filter_cons_of_neg (by simp [h])]; omega
 ·rw [if_neg h, List.filter_cons_of_pos (by simp [h])]; simp; omega
theorem e1n : ∀ (rs : List Nat) (n v : Nat), nzN (rs.set n v) ≤ nzN rs + 1
 | [], n, v => by simp [nzN]
 | u :: rs, 0, v => by
  show nzN (v :: rs) ≤ _
  rw [n0y, n0y]
  split <;> omega
 | u :: rs, n + 1, v => by
  have ih := e1n rs n v
  show nzN (u :: rs.set n v) ≤ _
  rw [n0y, n0y]; omega
theorem u0b (s : RS) (c a : Int) (hc : ¬ c = 0) : ¬ (e0b s c a).code = 0 := by
 unfold e0b; split
 ·exact hc
 ·rename_i h; exact h
theorem k1a (tk : List Tk) (s : RS) (c : Int) (hc : ¬ c = 0) : ¬ (e0e tk s c).code = 0 := by
 unfold e0e; split
 ·exact hc
 ·rename_i h; exact h
theorem z0h {x : SrcA} (hb : x0b x) (t : ByteArray) (a : Nat) (hok : (rowA x t a).2.1 = 0) : x0b (rowA x t a).1 ∧ srcW (rowA x t a).1 + k0r (rowA x t a).1 ≤ srcW x + k0r x + 1 := by
 unfold rowA at hok ⊢
 dsimp only at hok ⊢
 by_cases hA : x.after = 4 ∨ ¬ decide (x.after = 0) = decide (t.extract 0 (c0t t 0) = j0i)
 ·rw [if_pos hA] at hok; exact absurd hok (by show ¬ (110 : Int) = 0; decide)
 rw [if_neg hA] at hok ⊢
 by_cases hB : keyB (t.extract 0 (c0t t 0)) = false
 ·rw [if_pos hB] at hok ⊢
  unfold insR at hok ⊢
  rcases hc : x.cores.getLast? with _ | c
  ·rw [hc] at hok; exact absurd hok (by show ¬ (110 : Int) = 0; decide)
  ·rw [hc] at hok
   dsimp only at hok ⊢
   obtain ⟨l, hx⟩ := List.getLast?_eq_some_iff.1 hc
   by_cases hp : (f0o t.data.toList).2 = 0
   ·rw [if_pos hp]
    dsimp only
    rw [l0z hx]
    by_cases h2 : x.after = 2
    ·rw [if_pos h2]
     refine ⟨.inr (.inl h2), ?_⟩
     rw [s0i (x := x) (by omega), s0i (by show ¬ x.after = 3; omega)]
     show x.tables.length + x.cells.length + h0y (l ++ [_]) + 0 ≤ _
     unfold srcW
     rw [hx, g0k, g0k, g0j, g0j]
     unfold s0f; simp; omega
    ·rw [if_neg h2]
     have h3 : x.after = 3 := by
      rcases hb with h | h | h | h
      ·rw [h] at hx; simp at hx
      ·exact absurd h h2
      ·exact h
      ·exact absurd (.inl h) hA
     refine ⟨.inr (.inr (.inl h3)), ?_⟩
     have b2 : k0r ({ x with cores := l ++ [{ c with hand := c.hand ++ [(f0o t.data.toList).1] }], pI := q0e x.pI a } : SrcA) = 0 := by
      unfold k0r
      rw [if_neg]
      rintro ⟨_, h⟩
      unfold v0z at h
      simp at h
     have e1 : k0r x = if c.hand = [] then 1 else 0 := by
      unfold k0r v0z
      rw [hc]
      by_cases hh : c.hand = []
      ·rw [if_pos hh, if_pos ⟨h3, by simp [hh]⟩]
      ·rw [if_neg hh, if_neg (fun e => hh (by simpa using e.2))]
     rw [b2, e1]
     show x.tables.length + x.cells.length + h0y (l ++ [_]) + 0 ≤ _
     unfold srcW
     rw [hx, g0k, g0k, g0j, g0j]
     unfold s0f j1v
     rw [if_neg (by simp)]
     by_cases hh : c.hand = []
     ·rw [if_pos hh, if_pos hh, hh]; simp; omega
     ·rw [if_neg hh, if_neg hh]; simp; omega
   ·rw [if_neg hp] at hok; exact absurd hok hp
 rw [if_neg hB] at hok ⊢
 by_cases hC : ¬ (b0j t 0 []).2.1 = 0
 ·rw [if_pos hC] at hok
  exfalso
  have : (((b0j t 0 []).2.1 : Nat) : Int) = 0 := hok
  omega
 rw [if_neg hC] at hok ⊢
 dsimp only at hok ⊢
 have hok2 := l1u hok
 have h4 : ¬ x.after = 4 := fun e => hA (.inl e)
 generalize tkOf t a (b0j t 0 []).1 = tk at *
 generalize a0v tk ⟨0, 0, 0⟩ = s at *
 have hle := k1q
 have key : ∀ y : SrcA, x0b y → srcW y ≤ srcW x → x0b y ∧ srcW y + k0r y ≤ srcW x + k0r x + 1 := fun y h1 h2 => ⟨h1, by have := hle y; omega⟩
 have key1 : ∀ y : SrcA, x0b y → ¬ y.after = 3 → srcW y ≤ srcW x + 1 → x0b y ∧ srcW y + k0r y ≤ srcW x + k0r x + 1 := fun y h1 h2 h3 => ⟨h1, by rw [s0i h2]; omega⟩
 unfold g0y at hok2 ⊢
 by_cases w1 : t.extract 0 (c0t t 0) = j0i
 ·rw [if_pos w1]
  have h0 : x.after = 0 := by
   by_cases h0 : x.after = 0
   ·exact h0
   ·exfalso; apply hA; right; rw [decide_eq_false h0, decide_eq_true w1]; simp
  refine key1 _ ?_ (by show ¬ (1 : Nat) = 3; decide) (Nat.le_succ _)
  rcases hb with h | h | h | h
  ·exact .inl h
  all_goals omega
 rw [if_neg w1] at hok2 ⊢
 have h0 : ¬ x.after = 0 := fun h0 => hA (.inr (by rw [decide_eq_true h0, decide_eq_false w1]; simp))
 by_cases w2 : t.extract 0 (c0t t 0) = h0a
 ·rw [if_pos w2] at hok2 ⊢
  unfold i0s at hok2 ⊢
  by_cases h1 : x.after = 1
  ·rw [if_pos h1]
   exact key1 _ hb (by show ¬ x.after = 3; omega) (by show (x.tables ++ [_]).length + x.cells.length + h0y x.cores ≤ _; unfold srcW; simp; omega)
  ·rw [if_neg h1] at hok2; exact absurd hok2 (u0b _ _ _ (by decide))
 rw [if_neg w2] at hok2 ⊢
 by_cases w3 : t.extract 0 (c0t t 0) = y0s
 ·rw [if_pos w3] at hok2 ⊢
  unfold n0b at hok2 ⊢
  by_cases h1 : x.after = 1
  ·rw [if_pos h1]
   exact key1 _ hb (by show ¬ x.after = 3; omega) (by show x.tables.length + (x.cells ++ [_]).length + h0y x.cores ≤ _; unfold srcW; simp; omega)
  ·rw [if_neg h1] at hok2; exact absurd hok2 (u0b _ _ _ (by decide))
 rw [if_neg w3] at hok2 ⊢
 by_cases w4 : t.extract 0 (c0t t 0) = y0r
 ·rw [if_pos w4]
  refine key1 _ (.inr (.inl rfl)) (by show ¬ (2 : Nat) = 3; decide) ?_
  show x.tables.length + x.cells.length + h0y (x.cores ++ [_]) ≤ _
  rw [g0k, g0j]
  unfold srcW
  have e2 : ∀ (sp tb : Nat), s0f ⟨List.replicate 31 0, sp, tb, [], []⟩ = 1 := fun sp tb => by
   unfold s0f j1v nzN; simp
  rw [e2]; omega
 rw [if_neg w4] at hok2 ⊢
 by_cases w5 : t.extract 0 (c0t t 0) = wReg
 ·rw [if_pos w5] at hok2 ⊢
  unfold f0k at hok2 ⊢
  by_cases hr : m0o tk x s = true
  ·rw [if_pos hr]
   dsimp only
   rcases hc : x.cores.getLast? with _ | c
   ·unfold k0n; rw [hc]; exact key x hb (Nat.le_refl _)
   ·obtain ⟨l, hx⟩ := List.getLast?_eq_some_iff.1 hc
    have h2 : x.after = 2 := by
     unfold m0o at hr
     simp only [Bool.and_eq_true, decide_eq_true_eq] at hr
     exact hr.2
    rw [l0z hx]
    refine key1 _ (.inr (.inl h2)) (by show ¬ x.after = 3; omega) ?_
    show x.tables.length + x.cells.length + h0y (l ++ [_]) ≤ _
    unfold srcW
    rw [hx, g0k, g0k, g0j, g0j]
    unfold s0f
    have := e1n c.regs ((regN (a0p tk s).2.1).getD 0) (litV tk (d0z tk (a0v tk s) 3 ⟨#[61]⟩)).1
    dsimp only
    omega
  ·rw [if_neg hr] at hok2; exact absurd hok2 (k1a _ _ _ (by decide))
 rw [if_neg w5] at hok2 ⊢
 by_cases w6 : t.extract 0 (c0t t 0) = k0t
 ·rw [if_pos w6]
  exact key _ (.inr (.inr (.inl rfl))) (Nat.le_refl _)
 ·rw [if_neg w6]
  exact key1 _ (.inr (.inr (.inr rfl))) (by show ¬ (4 : Nat) = 3; decide) (Nat.le_succ _)
theorem o0v (s : ByteArray) : ∀ (l : List (Nat × Nat)) (x : SrcA), x0b x → (g0b s x l).2.1 = 0 → srcW (g0b s x l).1 ≤ srcW x + k0r x + l.length
 | [], x, _, h0 => by
  rw [g0b] at h0 ⊢
  split at h0
  ·rename_i h4; rw [if_pos h4]; show srcW x ≤ srcW x + k0r x + 0; omega
  ·exact absurd h0 (by show ¬ (110 : Int) = 0; decide)
 | r :: l, x, hb, h0 => by
  rw [g0b] at h0 ⊢
  try dsimp only at h0 ⊢
  split at h0
  ·rename_i hc
   rw [if_pos hc]
   obtain ⟨h1, h2⟩ := z0h hb _ _ hc
   have ih := o0v s l _ h1 h0
   simp only [List.length_cons]; omega
  ·rename_i hc; exact absurd h0 hc
theorem a1e {s : ByteArray} (h : (litA s).2.1 = 0) : srcW (litA s).1 ≤ (h0j s 0 []).length := by
 obtain ⟨_, hL⟩ := v0y h
 rw [hL] at h ⊢
 have := o0v s _ src0 (.inl rfl) h
 have e : srcW src0 + k0r src0 = 0 := by decide
 omega
end
end Go.Proofs.YtmnojnopejhebaaGreat
