/- granuleref13.Print: the document's text of a test. -/
import Derived.Test.YtmnojnopejhebaaGreatMgai
import Derived.Test.YtmnojnopejhebaaGreatMgak
import Derived.Test.YtmnojnopejhebaaGreatMgbd
import Derived.Test.YtmnojnopejhebaaGreatMgbh
import Derived.Test.YtmnojnopejhebaaGreatMgbj
import Derived.Test.YtmnojnopejhebaaGreatMgbm
namespace Go.Proofs.YtmnojnopejhebaaGreat
set_option linter.unusedVariables false
set_option linter.unusedSimpArgs false
set_option maxRecDepth 100000
set_option maxHeartbeats 25600000
section
open Go.RowKit
theorem u0s (w : World) {x : SrcA} {v : SrcV} (h : GRd w (gsrc x) v) (ht : TestOK x) (hl : (l0r x).length ≤ 16384) {cn : Int} (hrt : b0v cn x.cond = 0) {p3 : Option Addr} {c3 : Nat} (h3 : v.vT = .slice p3 x.tables.length c3) :
  Calls Tryz.prog 13 #[.agg #[.string x.name, v.vC, v.vCo, .bool x.fa, v.k0, v.k1, v.k2, v.k3, v.k4, v.k5], .slice p3 x.tables.length c3] w fun e w' => e = .returned (.string (ba (l0r x))) ∧ Below w.heap.size w w' := by
 obtain ⟨q3, d3, e3, R3, _⟩ := h.tables
 obtain ⟨p1, c1, e1, R1, _⟩ := h.cells
 obtain ⟨p2, c2, e2, R2, _⟩ := h.cores
 have HS := h_ h.sizes
 have HG0 := h_ h
 have HOK := h_ ht
 have HRTC := h_ hrt
 clear hrt
 have HTX := h_ (w0n x)
 obtain ⟨TX, hTX⟩ : ∃ TX, TX = l0r x := ⟨_, rfl⟩
 rw [← hTX] at HTX hl ⊢
 clear hTX h ht
 obtain ⟨nm, cells, cores, fa, cond, tables, pT, pC, pCo, pI, pCond, aft⟩ := x
 obtain ⟨vC, vCo, k0, k1, k2, k3, k4, k5, vT, vPT, vPC, vPCo, vPI, cvs, ivs⟩ := v
 have hlc : (gsrc ⟨nm, cells, cores, fa, cond, tables, pT, pC, pCo, pI, pCond, aft⟩).cores.length = cores.length := by simp [gsrc]
 rw [hlc] at e2 R2
 clear hlc
 dsimp only [gsrc] at e1 e2 e3 h3 R1 R2 R3 ⊢
 subst e1 e2 h3
 injection e3 with e3a e3b e3c
 subst e3a e3c
 clear e3b
 have HTX := h_ (show (flat ((1, h0f) :: i0q nm.data.toList) ++ [10]) ++ L10 (tables.map (fun v => flat ((1, a0k) :: a0q v))) ++ L10 (cells.map (fun p => flat ((1, b0t) :: c0h p.1 p.2))) ++ L10 (a0m 0 cores) ++ L10 [g0g fa cond] = TX from by
  rw [HTX.out]; unfold h0d; simp only [i0y, c0c, e0t, List.append_assoc])
 obtain ⟨L1, hL1⟩ : ∃ L1, L1 = (flat ((1, h0f) :: i0q nm.data.toList) ++ [10]) := ⟨_, rfl⟩
 rw [← hL1] at HTX
 have HLT0 := h_ hl
 have HLL := h_ (show L1.length + (L10 (tables.map (fun v => flat ((1, a0k) :: a0q v)))).length + (L10 (cells.map (fun p => flat ((1, b0t) :: c0h p.1 p.2)))).length + (L10 (a0m 0 cores)).length + (L10 [g0g fa cond]).length ≤ 16384 from by
  have q := congrArg List.length HTX.out
  simp only [List.length_append] at q
  omega)
 have HL1 := h_ (show ba L1 = ((⟨#[116, 101, 115, 116, 32]⟩ : ByteArray) ++ nm) ++ (⟨#[10]⟩ : ByteArray) from by rw [hL1]; apply ByteArray.ext; simp [ba, flat, i0q, h0f])
 have hnm : nm.size ≤ 20000 := by
  have q := HLL.out
  have e : (flat ((1, h0f) :: i0q nm.data.toList)).length = 5 + nm.data.toList.length := by simp [flat, i0q, h0f]; omega
  rw [hL1, List.length_append, e] at q
  rw [Lib.size_eq]; omega
 clear hl hL1
 have HB0 := h_ (show Below w.heap.size w (w.alloc (.cells #[.string nm, .slice p1 cells.length c1, .slice p2 cores.length c2, .bool fa, k0, k1, k2, k3, k4, k5] 31)) from bl_ (Below.refl _ _) _)
 have HM1 := h_ (show Blk (w.alloc (.cells #[.string nm, .slice p1 cells.length c1, .slice p2 cores.length c2, .bool fa, k0, k1, k2, k3, k4, k5] 31)) 31 w.heap.size [.string nm, .slice p1 cells.length c1, .slice p2 cores.length c2, .bool fa, k0, k1, k2, k3, k4, k5] from Blk.new w _ _)
 have HRT := h_ (fun (w2 : World) (k : Below (w.alloc (.cells #[.string nm, .slice p1 cells.length c1, .slice p2 cores.length c2, .bool fa, k0, k1, k2, k3, k4, k5] 31)).heap.size (w.alloc (.cells #[.string nm, .slice p1 cells.length c1, .slice p2 cores.length c2, .bool fa, k0, k1, k2, k3, k4, k5] 31)) w2) => R3.below (bt_ HB0.out k))
 have HRC := h_ (fun (w2 : World) (k : Below (w.alloc (.cells #[.string nm, .slice p1 cells.length c1, .slice p2 cores.length c2, .bool fa, k0, k1, k2, k3, k4, k5] 31)).heap.size (w.alloc (.cells #[.string nm, .slice p1 cells.length c1, .slice p2 cores.length c2, .bool fa, k0, k1, k2, k3, k4, k5] 31)) w2) => R1.below (bt_ HB0.out k))
 clear R1 R2 R3
 go_enter Tryz.func13, Tryz.ntmps13
 have hb0 := HM1.out.lt
 have m0 := HM1.out.cell 0
 simp only [gz_, gs_] at m0
 go_wp2_with fail
 clear m0 hb0
 generalize w.alloc (.cells #[.string nm, .slice p1 cells.length c1, .slice p2 cores.length c2, .bool fa, k0, k1, k2, k3, k4, k5] 31) = w1 at *
 have HS0 := h_ (show Value.string (((⟨#[116, 101, 115, 116, 32]⟩ : ByteArray) ++ nm) ++ (⟨#[10]⟩ : ByteArray)) = .string (ba L1) from by rw [HL1.out])
 go_loopw [5, 6] (fun s i wr => ∃ (k : Nat) (K : List UInt8), k ≤ tables.length ∧ s = .string (ba K) ∧ i = .int .i64 k ∧ Hid (K = L1 ++ L10 ((tables.take k).map (fun v => flat ((1, a0k) :: a0q v)))) ∧ Below w1.heap.size w1 wr) (fun _ i _ => tables.length - (intOf i).toNat)
 case atStart => exact ⟨0, _, by omega, HS0.out, rfl, h_ (by simp [e0t]), Below.refl _ _⟩
 case round =>
  obtain ⟨k, K, hk, rfl, rfl, HK, hbr⟩ := hrel
  have HBR := h_ hbr
  clear hbr
  have hsz := HS.out.tables
  dsimp only [gsrc] at hsz
  by_cases hkl : k < tables.length
  ·have hk0 : (0 : Int) ≤ k := by omega
   have hkn : (k : Int) < tables.length := by omega
   obtain ⟨g, off, rfl, hcell⟩ := l0u (HRT.out wr HBR.out) hkl
   have hvl := HOK.out.tables (tables.getD k 0) (by rw [List.getD_eq_getElem?_getD, List.getElem?_eq_getElem hkl]; exact List.getElem_mem hkl)
   have HT := h_ (e0g (fun v => flat ((1, a0k) :: a0q v)) hkl)
   rw [show tables[k] = tables.getD k 0 by simp [List.getD, List.getElem?_eq_getElem hkl]] at HT
   have HLE := h_ (f0v (fun v => flat ((1, a0k) :: a0q v)) tables (k + 1))
   generalize tables.getD k 0 = v at *
   have HHV := h_ (fun w2 => k0p v w2 hvl)
   clear hvl
   have HLT := h_ (show K.length + ([116, 97, 98, 108, 101, 32] ++ (hexL v ++ [10])).length ≤ 20000 ∧ K ++ ([116, 97, 98, 108, 101, 32] ++ (hexL v ++ [10])) = L1 ++ L10 ((tables.take (k + 1)).map (fun v => flat ((1, a0k) :: a0q v))) from by
    have e : K ++ ([116, 97, 98, 108, 101, 32] ++ (hexL v ++ [10])) = L1 ++ L10 ((tables.take (k + 1)).map (fun v => flat ((1, a0k) :: a0q v))) := by
     rw [HK.out]; rw [HT.out]; simp [flat, a0q, a0k]
    refine ⟨?_, e⟩
    have q := congrArg List.length e
    have q2 := HLL.out
    have q3 := HLE.out
    simp only [List.length_append] at q q2 q3 ⊢
    omega)
   have hlen := HLT.out.1
   simp only [List.length_append, List.length_cons, List.length_nil] at hlen
   obtain ⟨A1, hA1, hcA1⟩ := catx (P := Tryz.prog) K [116, 97, 98, 108, 101, 32] (x := ba K) rfl (y := ⟨#[116, 97, 98, 108, 101, 32]⟩) rfl (by (try simp); omega)
   obtain ⟨A2, hA2, hcA2⟩ := catx (P := Tryz.prog) A1 (hexL v) (x := ba A1) rfl (y := ba (hexL v)) rfl (by rw [hA1]; (try simp); omega)
   obtain ⟨A3, hA3, hcA3⟩ := catx (P := Tryz.prog) A2 [10] (x := ba A2) rfl (y := ⟨#[10]⟩) rfl (by rw [hA2]; rw [hA1]; (try simp); omega)
   have HA := h_ (show A3 = L1 ++ L10 ((tables.take (k + 1)).map (fun v => flat ((1, a0k) :: a0q v))) from by rw [← HLT.out.2, hA3, hA2, hA1]; simp)
   clear hA1 hA2 hA3
   clear hlen
   go_wp2_with fail
   refine (HHV.out _).mono ?_
   rintro e w2 ⟨rfl, m, rfl⟩
   have HB2 := h_ (bd_ HBR.out m)
   go_wp2_with fail
   go_roundw
   case rel => exact ⟨k + 1, _, by omega, rfl, by go_num, HA, HB2.out⟩
   case measure => simp [intOf] <;> omega
  ·obtain rfl : k = tables.length := by omega
   rw [List.take_length] at HK
   have HBr2 := HBR
   have HK2 := HK
   clear HBR HK hkl hk
   have HMx := h_ (HM1.out.below HBr2.out)
   have m1 := HMx.out.cell 1
   simp only [gz_, gs_] at m1
   have hb0 := HMx.out.lt
   go_wp2_with fail
   clear m1 hb0 HMx
   go_loopw [5, 7] (fun s i wr => ∃ (k : Nat) (K : List UInt8), k ≤ cells.length ∧ s = .string (ba K) ∧ i = .int .i64 k ∧ Hid (K = (L1 ++ L10 (tables.map (fun v => flat ((1, a0k) :: a0q v)))) ++ L10 ((cells.take k).map (fun p => flat ((1, b0t) :: c0h p.1 p.2)))) ∧ Below w1.heap.size w1 wr) (fun _ i _ => cells.length - (intOf i).toNat)
   case atStart => exact ⟨0, _, by omega, rfl, rfl, h_ (by rw [HK2.out]; simp [e0t]), HBr2.out⟩
   case round =>
    obtain ⟨k, K, hk, rfl, rfl, HK, hbr⟩ := hrel
    have HBR := h_ hbr
    clear hbr
    have hsz := HS.out.cells
    dsimp only [gsrc] at hsz
    have HMy := h_ (HM1.out.below HBR.out)
    have m1 := HMy.out.cell 1
    simp only [gz_, gs_] at m1
    have hb0 := HMy.out.lt
    by_cases hkl : k < cells.length
    ·have hk0 : (0 : Int) ≤ k := by omega
     have hkn : (k : Int) < cells.length := by omega
     obtain ⟨g, off, rfl, a0, a1⟩ := o0h (HRC.out wr HBR.out) hkl
     have e0 : (cells.map Prod.fst).getD k 0 = cells[k].1 := by simp [List.getD, List.getElem?_eq_getElem hkl]
     have e1 : (cells.map Prod.snd).getD k 0 = cells[k].2 := by simp [List.getD, List.getElem?_eq_getElem hkl]
     rw [e0] at a0
     rw [e1] at a1
     clear e0 e1
     have hvl := HOK.out.cells cells[k] (List.getElem_mem hkl)
     have HT := h_ (e0g (fun p => flat ((1, b0t) :: c0h p.1 p.2)) hkl)
     have HLE := h_ (f0v (fun p => flat ((1, b0t) :: c0h p.1 p.2)) cells (k + 1))
     generalize cells[k] = y at *
     obtain ⟨a, v⟩ := y
     dsimp only at a0 a1 hvl HT
     have HHA := h_ (fun w2 => k0p a w2 hvl.1)
     have HHV := h_ (fun w2 => k0p v w2 hvl.2)
     clear hvl
     have HLT := h_ (show K.length + ([99, 101, 108, 108, 32] ++ (hexL a ++ ([32, 61, 32] ++ (hexL v ++ [10])))).length ≤ 20000 ∧ K ++ ([99, 101, 108, 108, 32] ++ (hexL a ++ ([32, 61, 32] ++ (hexL v ++ [10])))) = (L1 ++ L10 (tables.map (fun v => flat ((1, a0k) :: a0q v)))) ++ L10 ((cells.take (k + 1)).map (fun p => flat ((1, b0t) :: c0h p.1 p.2))) from by
      have e : K ++ ([99, 101, 108, 108, 32] ++ (hexL a ++ ([32, 61, 32] ++ (hexL v ++ [10])))) = (L1 ++ L10 (tables.map (fun v => flat ((1, a0k) :: a0q v)))) ++ L10 ((cells.take (k + 1)).map (fun p => flat ((1, b0t) :: c0h p.1 p.2))) := by
       rw [HK.out]; rw [HT.out]; simp [flat, c0h, b0t]
      refine ⟨?_, e⟩
      have q := congrArg List.length e
      have q2 := HLL.out
      have q3 := HLE.out
      simp only [List.length_append] at q q2 q3 ⊢
      omega)
     have hlen := HLT.out.1
     simp only [List.length_append, List.length_cons, List.length_nil] at hlen
     obtain ⟨A1, hA1, hcA1⟩ := catx (P := Tryz.prog) K [99, 101, 108, 108, 32] (x := ba K) rfl (y := ⟨#[99, 101, 108, 108, 32]⟩) rfl (by (try simp); omega)
     obtain ⟨A2, hA2, hcA2⟩ := catx (P := Tryz.prog) A1 (hexL a) (x := ba A1) rfl (y := ba (hexL a)) rfl (by rw [hA1]; (try simp); omega)
     obtain ⟨A3, hA3, hcA3⟩ := catx (P := Tryz.prog) A2 [32, 61, 32] (x := ba A2) rfl (y := ⟨#[32, 61, 32]⟩) rfl (by rw [hA2]; rw [hA1]; (try simp); omega)
     obtain ⟨A4, hA4, hcA4⟩ := catx (P := Tryz.prog) A3 (hexL v) (x := ba A3) rfl (y := ba (hexL v)) rfl (by rw [hA3]; rw [hA2]; rw [hA1]; (try simp); omega)
     obtain ⟨A5, hA5, hcA5⟩ := catx (P := Tryz.prog) A4 [10] (x := ba A4) rfl (y := ⟨#[10]⟩) rfl (by rw [hA4]; rw [hA3]; rw [hA2]; rw [hA1]; (try simp); omega)
     have HA := h_ (show A5 = (L1 ++ L10 (tables.map (fun v => flat ((1, a0k) :: a0q v)))) ++ L10 ((cells.take (k + 1)).map (fun p => flat ((1, b0t) :: c0h p.1 p.2))) from by rw [← HLT.out.2, hA5, hA4, hA3, hA2, hA1]; simp)
     clear hA1 hA2 hA3 hA4 hA5
     clear hlen
     go_wp2_with fail
     refine wp_region_held_drew (S := (fun w' => w'.cell? ⟨w.heap.size, 1, none⟩ = some (.slice (some ⟨g, off, none⟩) cells.length c1) ∧ w'.cell? ⟨g, off + k * 2, none⟩ = some (.int .u64 (a : Nat)) ∧ w'.cell? ⟨g, off + k * 2 + 1, none⟩ = some (.int .u64 (v : Nat)))) (by kernel_rfl) (by (try dsimp only); exact ⟨m1, a0, a1⟩) (fun hHeld => ?_)
     refine tk1 0 39 rfl ?_
     simp only [Act.put, tka, tk0, tkS]
     refine tk1 1 40 rfl ?_
     simp only [Act.put, tka, tk0, tkS]
     refine tk1 2 41 rfl ?_
     simp only [Act.put, tka, tk0, tkS]
     refine tk1 3 42 rfl ?_
     simp only [Act.put, tka, tk0, tkS]
     refine tk1 4 43 rfl ?_
     simp only [Act.put, tka, tk0, tkS]
     refine tk1 5 44 rfl ?_
     simp only [Act.put, tka, tk0, tkS]
     refine tk1 6 45 rfl ?_
     simp only [Act.put, tka, tk0, tkS]
     refine tk1 7 46 rfl ?_
     simp only [Act.put, tka, tk0, tkS]
     refine tk1 11 50 rfl ?_
     simp only [Act.put, tka, tk0, tkS]
     refine tk1 12 51 rfl ?_
     simp only [Act.put, tka, tk0, tkS]
     refine tk1 13 52 rfl ?_
     simp only [Act.put, tka, tk0, tkS]
     refine tk1 14 53 rfl ?_
     simp only [Act.put, tka, tk0, tkS]
     refine tk1 15 54 rfl ?_
     simp only [Act.put, tka, tk0, tkS]
     refine tk1 16 55 rfl ?_
     simp only [Act.put, tka, tk0, tkS]
     refine wpAnyH_ready (rs := [8]) (by kernel_rfl) (by simp) ?_
     refine AllReadyH.cons (o := ⟨some 47, _, _, _, _, _⟩) rfl (fun K hK => ?_) AllReadyH.nil
     go_simp
     go_at_call 35
     refine (HHA.out _).mono ?_
     rintro e w' ⟨rfl, mm, rfl⟩
     refine hK.out _ _ (by (try dsimp only); exact ⟨m1, a0, a1⟩) ?_
     clear hK K hHeld
     intro hHeld
     try simp only [Act.put, tka, tk0, tkS]
     refine tk1 9 48 rfl ?_
     simp only [Act.put, tka, tk0, tkS]
     refine tk1 10 49 rfl ?_
     simp only [Act.put, tka, tk0, tkS]
     refine wpAnyH_ready (rs := [17]) (by kernel_rfl) (by simp) ?_
     refine AllReadyH.cons (o := ⟨some 56, _, _, _, _, _⟩) rfl (fun K hK => ?_) AllReadyH.nil
     go_simp
     go_at_call 35
     refine (HHV.out _).mono ?_
     rintro e w' ⟨rfl, mm, rfl⟩
     refine hK.out _ _ (by (try dsimp only); exact ⟨m1, a0, a1⟩) ?_
     clear hK K hHeld
     intro hHeld
     try simp only [Act.put, tka, tk0, tkS]
     refine tk1 18 57 rfl ?_
     simp only [Act.put, tka, tk0, tkS]
     refine tk1 19 58 rfl ?_
     simp only [Act.put, tka, tk0, tkS]
     refine tk1 20 5 rfl ?_
     simp only [Act.put, tka, tk0, tkS]
     refine wpAnyH_done (by kernel_rfl) ?_ _
     clear hHeld
     go_wp2_with fail
     go_roundw
     case rel => exact ⟨k + 1, _, by omega, rfl, by go_num, HA, by repeat (first | exact HBR.out | refine bd_ ?_ _ | refine Below.drew ?_)⟩
     case measure => simp [intOf] <;> omega
    ·obtain rfl : k = cells.length := by omega
     rw [List.take_length] at HK
     have HBr3 := HBR
     have HK3 := HK
     clear HK hkl hk
     go_wp2_with fail
     clear m1 hb0 HMy
     clear HBR
     go_loopw [5, 8] (fun s i wr => ∃ (k : Nat) (K : List UInt8), k ≤ cores.length ∧ s = .string (ba K) ∧ i = .int .i64 k ∧ Hid (K = ((L1 ++ L10 (tables.map (fun v => flat ((1, a0k) :: a0q v)))) ++ L10 (cells.map (fun p => flat ((1, b0t) :: c0h p.1 p.2)))) ++ L10 (a0m 0 (cores.take k))) ∧ Below w1.heap.size w1 wr) (fun _ i _ => cores.length - (intOf i).toNat)
     case atStart => exact ⟨0, _, by omega, rfl, rfl, h_ (by rw [HK3.out]; simp [e0t, a0m]), HBr3.out⟩
     case round =>
      obtain ⟨k, K, hk, rfl, rfl, HK, hbr⟩ := hrel
      have HBR := h_ hbr
      clear hbr
      have hsz := HOK.out.len
      dsimp only at hsz
      have HMy := h_ (HM1.out.below HBR.out)
      have m2 := HMy.out.cell 2
      simp only [gz_, gs_] at m2
      have hb0 := HMy.out.lt
      by_cases hkl : k < cores.length
      ·have hk0 : (0 : Int) ≤ k := by omega
       have hkn : (k : Int) < cores.length := by omega
       obtain ⟨g, off, pr, cr, pc, cc, ph, ch, rfl, b0, b1, b2, b3, b4, Rr, Rc, Rh⟩ := HG0.out.coreCells rfl hkl
       dsimp only at b0 b1 b2 b3 b4 Rr Rc Rh
       have a0 := cell_below b0 (bt_ HB0.out HBR.out)
       have a1 := cell_below b1 (bt_ HB0.out HBR.out)
       have a2 := cell_below b2 (bt_ HB0.out HBR.out)
       have a3 := cell_below b3 (bt_ HB0.out HBR.out)
       have a4 := cell_below b4 (bt_ HB0.out HBR.out)
       clear b0 b1 b2 b3 b4
       have HCO := h_ (HOK.out.cores cores[k] (List.getElem_mem hkl))
       have HCS := h_ (HS.out.code (j0r cores[k]) (show j0r cores[k] ∈ cores.map j0r from List.mem_map_of_mem (List.getElem_mem hkl)))
       have HT := h_ (l0p hkl)
       have HLE := h_ (o0c cores (k + 1))
       generalize cores[k] = y at *
       obtain ⟨regs, space, table, code, hand⟩ := y
       dsimp only [j0r] at a0 a1 a2 a3 a4 Rr Rc Rh HT HCS
       have HTL := h_ (show K ++ L10 (c0k k ⟨regs, space, table, code, hand⟩) = ((L1 ++ L10 (tables.map (fun v => flat ((1, a0k) :: a0q v)))) ++ L10 (cells.map (fun p => flat ((1, b0t) :: c0h p.1 p.2)))) ++ L10 (a0m 0 (cores.take (k + 1))) ∧ K.length + (L10 (c0k k ⟨regs, space, table, code, hand⟩)).length ≤ 16384 from by
        have e : K ++ L10 (c0k k ⟨regs, space, table, code, hand⟩) = ((L1 ++ L10 (tables.map (fun v => flat ((1, a0k) :: a0q v)))) ++ L10 (cells.map (fun p => flat ((1, b0t) :: c0h p.1 p.2)))) ++ L10 (a0m 0 (cores.take (k + 1))) := by rw [HK.out, HT.out, c0c, List.append_assoc _ (L10 (a0m 0 (cores.take k)))]
        refine ⟨e, ?_⟩
        have q := congrArg List.length e
        have q2 := HLL.out
        have q3 := HLE.out
        simp only [List.length_append] at q q2 q3
        omega)
       have HEQ0 := h_ (fun (e : hand = []) => show K ++ L10 (c0k k ⟨regs, space, table, code, hand⟩) = ((K ++ (flat ((1, f0l) :: i0r k space table) ++ [10])) ++ L10 (a0l regs 0)) ++ L10 (code.map insT) from by unfold c0k k0f; rw [if_pos e, i0y, c0c, c0c, e0t]; simp)
       have HEQ1 := h_ (fun (e : ¬ hand = []) => show K ++ L10 (c0k k ⟨regs, space, table, code, hand⟩) = (((K ++ (flat ((1, f0l) :: i0r k space table) ++ [10])) ++ L10 (a0l regs 0)) ++ L10 (code.map insT)) ++ ((b0e ++ [10]) ++ L10 (hand.map insT)) from by unfold c0k k0f; rw [if_neg e, i0y, c0c, c0c, i0y]; simp)
       have HLX := h_ (show (K ++ (flat ((1, f0l) :: i0r k space table) ++ [10])).length + (L10 (a0l regs 0)).length + (L10 (code.map insT)).length + (L10 (hand.map insT)).length + 8 ≤ 16400 from by
        by_cases e : hand = []
        ·have q := congrArg List.length (HEQ0.out e)
         have q2 := HTL.out.2
         rw [e]
         simp only [List.length_append, List.map_nil, e0t, List.length_nil] at q q2 ⊢
         omega
        ·have q := congrArg List.length (HEQ1.out e)
         have q2 := HTL.out.2
         have e7 : b0e.length = 7 := rfl
         simp only [List.length_append, List.length_singleton] at q q2 ⊢
         omega)
       have HBw := h_ (show Below w1.heap.size w1 (wr.alloc (.cells #[.slice pr regs.length cr, .int .i64 (space : Nat), .int .u64 (table : Nat), .slice pc code.length cc, .slice ph hand.length ch] 82)) from bl_ HBR.out _)
       have HBw0 := h_ (show Below w.heap.size w (wr.alloc (.cells #[.slice pr regs.length cr, .int .i64 (space : Nat), .int .u64 (table : Nat), .slice pc code.length cc, .slice ph hand.length ch] 82)) from bt_ HB0.out HBw.out)
       have HD2 := h_ (Blk.new wr 82 [.slice pr regs.length cr, .int .i64 (space : Nat), .int .u64 (table : Nat), .slice pc code.length cc, .slice ph hand.length ch])
       dsimp only [List.toArray] at HD2
       have HRr := h_ (Rr.below HBw0.out)
       have HRc := h_ (Rc.below HBw0.out)
       have HRh := h_ (Rh.below HBw0.out)
       clear Rr Rc Rh
       have HHT := h_ (fun w2 => k0p table w2 HCO.out.table)
       have HIK := h_ (fun w2 => l0f (k : Nat) w2 (by omega))
       have hspl := HCO.out.space
       dsimp only at hspl
       have HIS := h_ (fun w2 => l0f (space : Nat) w2 (by omega))
       clear hspl
       have n1 := HD2.out.cell 1
       have n2 := HD2.out.cell 2
       simp only [gz_, gs_] at n1 n2
       have hbc := HD2.out.lt
       obtain ⟨K1, hK1⟩ : ∃ K1, K1 = K ++ (flat ((1, f0l) :: i0r k space table) ++ [10]) := ⟨_, rfl⟩
       rw [← hK1] at HLX HEQ0 HEQ1
       have HK1 := h_ hK1
       clear hK1
       by_cases hsp0 : space = 0
       focus (
        subst hsp0
        have HQ := h_ (show K.length + (([99, 111, 114, 101, 32]) ++ (intL (k : Nat)) ++ ([32, 116, 97, 98, 108, 101, 32]) ++ (hexL table) ++ ([10])).length ≤ 20000 ∧ K1 = K ++ (([99, 111, 114, 101, 32]) ++ (intL (k : Nat)) ++ ([32, 116, 97, 98, 108, 101, 32]) ++ (hexL table) ++ ([10])) from by
         have e : K1 = K ++ (([99, 111, 114, 101, 32]) ++ (intL (k : Nat)) ++ ([32, 116, 97, 98, 108, 101, 32]) ++ (hexL table) ++ ([10])) := by rw [HK1.out]; simp [flat, i0r, f0l, a0k]
         refine ⟨?_, e⟩
         have q := congrArg List.length e
         have q2 := HLX.out
         rw [List.length_append] at q
         omega)
        have hlen := HQ.out.1
        simp only [List.length_append, List.length_cons, List.length_nil] at hlen
        obtain ⟨A1, hA1, hcA1⟩ := catx (P := Tryz.prog) K [99, 111, 114, 101, 32] (x := ba K) rfl (y := ⟨#[99, 111, 114, 101, 32]⟩) rfl (by (try simp); omega)
        obtain ⟨A2, hA2, hcA2⟩ := catx (P := Tryz.prog) A1 (intL (k : Nat)) (x := ba A1) rfl (y := ba (intL (k : Nat))) rfl (by rw [hA1]; (try simp); omega)
        obtain ⟨A3, hA3, hcA3⟩ := catx (P := Tryz.prog) A2 [32, 116, 97, 98, 108, 101, 32] (x := ba A2) rfl (y := ⟨#[32, 116, 97, 98, 108, 101, 32]⟩) rfl (by rw [hA2]; rw [hA1]; (try simp); omega)
        obtain ⟨A4, hA4, hcA4⟩ := catx (P := Tryz.prog) A3 (hexL table) (x := ba A3) rfl (y := ba (hexL table)) rfl (by rw [hA3]; rw [hA2]; rw [hA1]; (try simp); omega)
        obtain ⟨A5, hA5, hcA5⟩ := catx (P := Tryz.prog) A4 [10] (x := ba A4) rfl (y := ⟨#[10]⟩) rfl (by rw [hA4]; rw [hA3]; rw [hA2]; rw [hA1]; (try simp); omega)
        have HA := h_ (show A5 = K1 from by rw [HQ.out.2, hA5, hA4, hA3, hA2, hA1]; simp)
        clear hlen hA1 hA2 hA3 hA4 hA5
        go_wp2_with fail
        refine (HIK.out _).mono ?_
        rintro e w' ⟨rfl, mm, rfl⟩
        go_wp2_with fail
        refine (HHT.out _).mono ?_
        rintro e w' ⟨rfl, mm, rfl⟩
        go_wp2_with fail
        rw [HA.out]
        clear HA n1 n2 hbc
        generalize wr.alloc (.cells #[.slice pr regs.length cr, .int .i64 (0 : Nat), .int .u64 (table : Nat), .slice pc code.length cc, .slice ph hand.length ch] 82) = w2 at *
        generalize wr.heap.size = h2 at *)
       rotate_left
       focus (
        have HQ := h_ (show K.length + (([99, 111, 114, 101, 32]) ++ (intL (k : Nat)) ++ ([32, 115, 112, 97, 99, 101, 32]) ++ (intL (space : Nat)) ++ ([32, 116, 97, 98, 108, 101, 32]) ++ (hexL table) ++ ([10])).length ≤ 20000 ∧ K1 = K ++ (([99, 111, 114, 101, 32]) ++ (intL (k : Nat)) ++ ([32, 115, 112, 97, 99, 101, 32]) ++ (intL (space : Nat)) ++ ([32, 116, 97, 98, 108, 101, 32]) ++ (hexL table) ++ ([10])) from by
         have e : K1 = K ++ (([99, 111, 114, 101, 32]) ++ (intL (k : Nat)) ++ ([32, 115, 112, 97, 99, 101, 32]) ++ (intL (space : Nat)) ++ ([32, 116, 97, 98, 108, 101, 32]) ++ (hexL table) ++ ([10])) := by rw [HK1.out]; simp [flat, i0r, f0l, a0k, m0b, hsp0]
         refine ⟨?_, e⟩
         have q := congrArg List.length e
         have q2 := HLX.out
         rw [List.length_append] at q
         omega)
        have hlen := HQ.out.1
        simp only [List.length_append, List.length_cons, List.length_nil] at hlen
        obtain ⟨A1, hA1, hcA1⟩ := catx (P := Tryz.prog) K [99, 111, 114, 101, 32] (x := ba K) rfl (y := ⟨#[99, 111, 114, 101, 32]⟩) rfl (by (try simp); omega)
        obtain ⟨A2, hA2, hcA2⟩ := catx (P := Tryz.prog) A1 (intL (k : Nat)) (x := ba A1) rfl (y := ba (intL (k : Nat))) rfl (by rw [hA1]; (try simp); omega)
        obtain ⟨A3, hA3, hcA3⟩ := catx (P := Tryz.prog) A2 [32, 115, 112, 97, 99, 101, 32] (x := ba A2) rfl (y := ⟨#[32, 115, 112, 97, 99, 101, 32]⟩) rfl (by rw [hA2]; rw [hA1]; (try simp); omega)
        obtain ⟨A4, hA4, hcA4⟩ := catx (P := Tryz.prog) A3 (intL (space : Nat)) (x := ba A3) rfl (y := ba (intL (space : Nat))) rfl (by rw [hA3]; rw [hA2]; rw [hA1]; (try simp); omega)
        obtain ⟨A5, hA5, hcA5⟩ := catx (P := Tryz.prog) A4 [32, 116, 97, 98, 108, 101, 32] (x := ba A4) rfl (y := ⟨#[32, 116, 97, 98, 108, 101, 32]⟩) rfl (by rw [hA4]; rw [hA3]; rw [hA2]; rw [hA1]; (try simp); omega)
        obtain ⟨A6, hA6, hcA6⟩ := catx (P := Tryz.prog) A5 (hexL table) (x := ba A5) rfl (y := ba (hexL table)) rfl (by rw [hA5]; rw [hA4]; rw [hA3]; rw [hA2]; rw [hA1]; (try simp); omega)
        obtain ⟨A7, hA7, hcA7⟩ := catx (P := Tryz.prog) A6 [10] (x := ba A6) rfl (y := ⟨#[10]⟩) rfl (by rw [hA6]; rw [hA5]; rw [hA4]; rw [hA3]; rw [hA2]; rw [hA1]; (try simp); omega)
        have HA := h_ (show A7 = K1 from by rw [HQ.out.2, hA7, hA6, hA5, hA4, hA3, hA2, hA1]; simp)
        clear hlen hA1 hA2 hA3 hA4 hA5 hA6 hA7
        have hspb : (((space : Nat) : Int) == 0) = false := by rw [beq_eq_false_iff_ne]; omega
        clear hsp0
        go_wp2_with fail
        refine (HIK.out _).mono ?_
        rintro e w' ⟨rfl, mm, rfl⟩
        go_wp2_with fail
        refine (HIS.out _).mono ?_
        rintro e w' ⟨rfl, mm, rfl⟩
        go_wp2_with fail
        refine (HHT.out _).mono ?_
        rintro e w' ⟨rfl, mm, rfl⟩
        go_wp2_with fail
        rw [HA.out]
        clear HA n1 n2 hbc
        generalize wr.alloc (.cells #[.slice pr regs.length cr, .int .i64 (space : Nat), .int .u64 (table : Nat), .slice pc code.length cc, .slice ph hand.length ch] 82) = w2 at *
        generalize wr.heap.size = h2 at *)
       all_goals (
        go_loopw [5, 10] (fun s i ws => ∃ (j : Nat) (M : List UInt8), j ≤ regs.length ∧ s = .string (ba M) ∧ i = .int .i64 j ∧ Hid (M = K1 ++ L10 (a0l (regs.take j) 0)) ∧ Below w2.heap.size w2 ws) (fun _ i _ => regs.length - (intOf i).toNat)
        case atStart => exact ⟨0, _, by omega, rfl, rfl, h_ (by simp [e0t, a0l]), by repeat (first | exact Below.refl _ _ | refine bd_ ?_ _ | refine Below.drew ?_)⟩
        case round =>
         obtain ⟨j, M, hj, rfl, rfl, HM, hbs⟩ := hrel
         have HBs := h_ hbs
         clear hbs
         have hsr := HCS.out.2.2
         have HMc := h_ (HD2.out.below HBs.out)
         have n0 := HMc.out.cell 0
         simp only [gz_] at n0
         have hbc := HMc.out.lt
         by_cases hjl : j < regs.length
         ·have hj0 : (0 : Int) ≤ j := by omega
          have hjn : (j : Int) < regs.length := by omega
          obtain ⟨gr, offr, rfl, hcell⟩ := l0u (HRr.out.below HBs.out) hjl
          have hvl := HCO.out.regs (regs.getD j 0) (by rw [List.getD_eq_getElem?_getD, List.getElem?_eq_getElem hjl]; exact List.getElem_mem hjl)
          have HT2 := h_ (n0x hjl)
          rw [show regs[j] = regs.getD j 0 by simp [List.getD, List.getElem?_eq_getElem hjl]] at HT2
          have HLE2 := h_ (p0x regs (j + 1))
          generalize regs.getD j 0 = v at *
          have HHV := h_ (fun w2 => k0p v w2 hvl)
          have HRG := h_ (fun w2 => m0n (j : Nat) w2 (by omega))
          clear hvl
          by_cases hv : v = 0
          ·subst hv
           have HT3 := h_ (show a0l (regs.take (j + 1)) 0 = a0l (regs.take j) 0 from by rw [HT2.out]; simp)
           go_wp2_with fail
           go_roundw
           case rel => exact ⟨j + 1, _, by omega, rfl, by go_num, h_ (by rw [HT3.out]; exact HM.out), HBs.out⟩
           case measure => simp [intOf] <;> omega
          ·have hvb : (((v : Nat) : Int) != 0) = true := bne_iff_ne.2 (by omega)
           have HLT := h_ (show M.length + ([114, 101, 103, 32] ++ (regL (j : Nat) ++ ([32, 61, 32] ++ (hexL v ++ [10])))).length ≤ 20000 ∧ M ++ ([114, 101, 103, 32] ++ (regL (j : Nat) ++ ([32, 61, 32] ++ (hexL v ++ [10])))) = K1 ++ L10 (a0l (regs.take (j + 1)) 0) from by
            have e : M ++ ([114, 101, 103, 32] ++ (regL (j : Nat) ++ ([32, 61, 32] ++ (hexL v ++ [10])))) = K1 ++ L10 (a0l (regs.take (j + 1)) 0) := by
             rw [HM.out, HT2.out, if_neg hv, c0c, m0f]; simp [flat, u0z, o0e]
            refine ⟨?_, e⟩
            have q := congrArg List.length e
            have q2 := HLX.out
            have q3 := HLE2.out
            simp only [List.length_append] at q q2 q3 ⊢
            omega)
           have hlen := HLT.out.1
           simp only [List.length_append, List.length_cons, List.length_nil] at hlen
           obtain ⟨A1, hA1, hcA1⟩ := catx (P := Tryz.prog) M [114, 101, 103, 32] (x := ba M) rfl (y := ⟨#[114, 101, 103, 32]⟩) rfl (by (try simp); omega)
           obtain ⟨A2, hA2, hcA2⟩ := catx (P := Tryz.prog) A1 (regL (j : Nat)) (x := ba A1) rfl (y := ba (regL (j : Nat))) rfl (by rw [hA1]; (try simp); omega)
           obtain ⟨A3, hA3, hcA3⟩ := catx (P := Tryz.prog) A2 [32, 61, 32] (x := ba A2) rfl (y := ⟨#[32, 61, 32]⟩) rfl (by rw [hA2]; rw [hA1]; (try simp); omega)
           obtain ⟨A4, hA4, hcA4⟩ := catx (P := Tryz.prog) A3 (hexL v) (x := ba A3) rfl (y := ba (hexL v)) rfl (by rw [hA3]; rw [hA2]; rw [hA1]; (try simp); omega)
           obtain ⟨A5, hA5, hcA5⟩ := catx (P := Tryz.prog) A4 [10] (x := ba A4) rfl (y := ⟨#[10]⟩) rfl (by rw [hA4]; rw [hA3]; rw [hA2]; rw [hA1]; (try simp); omega)
           have HA := h_ (show A5 = K1 ++ L10 (a0l (regs.take (j + 1)) 0) from by rw [← HLT.out.2, hA5, hA4, hA3, hA2, hA1]; simp)
           clear hA1 hA2 hA3 hA4 hA5
           clear hlen hv
           go_wp2_with fail
           refine wp_region_held_drew (S := (fun w' => w'.cell? ⟨h2, 0, none⟩ = some (.slice (some ⟨gr, offr, none⟩) regs.length cr) ∧ w'.cell? ⟨gr, offr + j, none⟩ = some (.int .u64 (v : Nat)))) (by kernel_rfl) (by (try dsimp only); exact ⟨n0, hcell⟩) (fun hHeld => ?_)
           refine tk1 0 105 rfl ?_
           simp only [Act.put, tka, tk0, tkS]
           refine tk1 1 106 rfl ?_
           simp only [Act.put, tka, tk0, tkS]
           refine tk1 2 107 rfl ?_
           simp only [Act.put, tka, tk0, tkS]
           refine tk1 6 111 rfl ?_
           simp only [Act.put, tka, tk0, tkS]
           refine tk1 7 112 rfl ?_
           simp only [Act.put, tka, tk0, tkS]
           refine tk1 8 113 rfl ?_
           simp only [Act.put, tka, tk0, tkS]
           refine tk1 9 114 rfl ?_
           simp only [Act.put, tka, tk0, tkS]
           refine tk1 10 115 rfl ?_
           simp only [Act.put, tka, tk0, tkS]
           refine wpAnyH_ready (rs := [3]) (by kernel_rfl) (by simp) ?_
           refine AllReadyH.cons (o := ⟨some 108, _, _, _, _, _⟩) rfl (fun K hK => ?_) AllReadyH.nil
           go_simp
           go_at_call 37
           refine (HRG.out _).mono ?_
           rintro e w' ⟨rfl, mm, rfl⟩
           refine hK.out _ _ (by (try dsimp only); exact ⟨n0, hcell⟩) ?_
           clear hK K hHeld
           intro hHeld
           try simp only [Act.put, tka, tk0, tkS]
           refine tk1 4 109 rfl ?_
           simp only [Act.put, tka, tk0, tkS]
           refine tk1 5 110 rfl ?_
           simp only [Act.put, tka, tk0, tkS]
           refine wpAnyH_ready (rs := [11]) (by kernel_rfl) (by simp) ?_
           refine AllReadyH.cons (o := ⟨some 116, _, _, _, _, _⟩) rfl (fun K hK => ?_) AllReadyH.nil
           go_simp
           go_at_call 35
           refine (HHV.out _).mono ?_
           rintro e w' ⟨rfl, mm, rfl⟩
           refine hK.out _ _ (by (try dsimp only); exact ⟨n0, hcell⟩) ?_
           clear hK K hHeld
           intro hHeld
           try simp only [Act.put, tka, tk0, tkS]
           refine tk1 12 117 rfl ?_
           simp only [Act.put, tka, tk0, tkS]
           refine tk1 13 118 rfl ?_
           simp only [Act.put, tka, tk0, tkS]
           refine tk1 14 5 rfl ?_
           simp only [Act.put, tka, tk0, tkS]
           refine wpAnyH_done (by kernel_rfl) ?_ _
           clear hHeld
           go_wp2_with fail
           go_roundw
           case rel => exact ⟨j + 1, _, by omega, rfl, by go_num, HA, by repeat (first | exact HBs.out | refine bd_ ?_ _ | refine Below.drew ?_)⟩
           case measure => simp [intOf] <;> omega
         ·obtain rfl : j = regs.length := by omega
          rw [List.take_length] at HM
          have HBt := HBs
          have HM1_ := HM
          clear HBs HM hjl hj
          go_wp2_with fail
          clear n0 hbc HMc
          go_loopw [5, 11] (fun s i ws => ∃ (j : Nat) (M : List UInt8), j ≤ code.length ∧ s = .string (ba M) ∧ i = .int .i64 j ∧ Hid (M = (K1 ++ L10 (a0l regs 0)) ++ L10 ((code.take j).map insT)) ∧ Below w2.heap.size w2 ws) (fun _ i _ => code.length - (intOf i).toNat)
          case atStart => exact ⟨0, _, by omega, rfl, rfl, h_ (by rw [HM1_.out]; simp [e0t]), HBt.out⟩
          case round =>
           obtain ⟨j, M, hj, rfl, rfl, HM, hbs⟩ := hrel
           have HBs := h_ hbs
           clear hbs
           have hsr := HCS.out
           have HMc := h_ (HD2.out.below HBs.out)
           have n3 := HMc.out.cell 3
           simp only [gz_, gs_] at n3
           have hbc := HMc.out.lt
           by_cases hjl : j < code.length
           ·have hj0 : (0 : Int) ≤ j := by omega
            have hjn : (j : Int) < code.length := by omega
            obtain ⟨gr, offr, rfl, z0, z1, z2, z3, z4, z5⟩ := n0i (HRc.out.below HBs.out) hjl
            have HT2 := h_ (e0g insT hjl)
            have HLE2 := h_ (f0v insT code (j + 1))
            generalize code[j] = x at *
            obtain ⟨op, d, n, m, imm, kind⟩ := x
            dsimp only at z0 z1 z2 z3 z4 z5
            have HPR := h_ (fun w2 => p0e op d n m imm kind w2)
            have HLT := h_ (show M.length + (a0d op d n m imm kind ++ [10]).length ≤ 20000 ∧ M ++ (a0d op d n m imm kind ++ [10]) = (K1 ++ L10 (a0l regs 0)) ++ L10 ((code.take (j + 1)).map insT) from by
             have e : M ++ (a0d op d n m imm kind ++ [10]) = (K1 ++ L10 (a0l regs 0)) ++ L10 ((code.take (j + 1)).map insT) := by
              rw [HM.out, HT2.out]; simp [insT]
             refine ⟨?_, e⟩
             have q := congrArg List.length e
             have q2 := HLX.out
             have q3 := HLE2.out
             simp only [List.length_append] at q q2 q3 ⊢
             omega)
            have hlen := HLT.out.1
            simp only [List.length_append, List.length_cons, List.length_nil] at hlen
            obtain ⟨A1, hA1, hcA1⟩ := catx (P := Tryz.prog) M (a0d op d n m imm kind) (x := ba M) rfl (y := ba (a0d op d n m imm kind)) rfl (by (try simp); omega)
            obtain ⟨A2, hA2, hcA2⟩ := catx (P := Tryz.prog) A1 [10] (x := ba A1) rfl (y := ⟨#[10]⟩) rfl (by rw [hA1]; (try simp); omega)
            have HA := h_ (show A2 = (K1 ++ L10 (a0l regs 0)) ++ L10 ((code.take (j + 1)).map insT) from by rw [← HLT.out.2, hA2, hA1]; simp)
            clear hA1 hA2
            clear hlen
            go_wp2_with fail
            refine (HPR.out _).mono ?_
            rintro e w3 ⟨rfl, hb⟩
            have HB3 := h_ (bt_ HBs.out hb)
            clear hb
            go_wp2_with fail
            go_roundw
            case rel => exact ⟨j + 1, _, by omega, rfl, by go_num, HA, HB3.out⟩
            case measure => simp [intOf] <;> omega
           ·obtain rfl : j = code.length := by omega
            rw [List.take_length] at HM
            have HBu := HBs
            have HM2_ := HM
            clear HBs HM hjl hj
            go_wp2_with fail
            clear n3 hbc HMc
            go_loopw [5, 12] (fun s i ws => ∃ (j : Nat) (M : List UInt8), j ≤ hand.length ∧ s = .string (ba M) ∧ i = .int .i64 j ∧ Hid (M = ((K1 ++ L10 (a0l regs 0)) ++ L10 (code.map insT)) ++ (if j = 0 then [] else (b0e ++ [10]) ++ L10 ((hand.take j).map insT))) ∧ Below w2.heap.size w2 ws) (fun _ i _ => hand.length - (intOf i).toNat)
            case atStart => exact ⟨0, _, by omega, rfl, rfl, h_ (by rw [HM2_.out]; simp), HBu.out⟩
            case round =>
             obtain ⟨j, M, hj, rfl, rfl, HM, hbs⟩ := hrel
             have HBs := h_ hbs
             clear hbs
             have hsr := HCS.out.2.1
             have HMc := h_ (HD2.out.below HBs.out)
             have n4 := HMc.out.cell 4
             simp only [gz_, gs_] at n4
             have hbc := HMc.out.lt
             by_cases hjl : j < hand.length
             ·have hj0 : (0 : Int) ≤ j := by omega
              have hjn : (j : Int) < hand.length := by omega
              obtain ⟨gr, offr, rfl, z0, z1, z2, z3, z4, z5⟩ := n0i (HRh.out.below HBs.out) hjl
              have HT2 := h_ (e0g insT hjl)
              have HLE2 := h_ (f0v insT hand (j + 1))
              generalize hand[j] = x at *
              obtain ⟨op, d, n, m, imm, kind⟩ := x
              dsimp only at z0 z1 z2 z3 z4 z5
              have HPR := h_ (fun w2 => p0e op d n m imm kind w2)
              by_cases hj0e : j = 0
              ·have HLT := h_ (show M.length + ([104, 97, 110, 100, 108, 101, 114, 10] ++ (a0d op d n m imm kind ++ [10])).length ≤ 20000 ∧ M ++ ([104, 97, 110, 100, 108, 101, 114, 10] ++ (a0d op d n m imm kind ++ [10])) = ((K1 ++ L10 (a0l regs 0)) ++ L10 (code.map insT)) ++ (if (j + 1) = 0 then [] else (b0e ++ [10]) ++ L10 ((hand.take (j + 1)).map insT)) from by
                have e : M ++ ([104, 97, 110, 100, 108, 101, 114, 10] ++ (a0d op d n m imm kind ++ [10])) = ((K1 ++ L10 (a0l regs 0)) ++ L10 (code.map insT)) ++ (if (j + 1) = 0 then [] else (b0e ++ [10]) ++ L10 ((hand.take (j + 1)).map insT)) := by
                 rw [HM.out, if_pos hj0e, if_neg (by omega), HT2.out]; subst hj0e; simp [insT, b0e, e0t]
                refine ⟨?_, e⟩
                have q := congrArg List.length e
                have q2 := HLX.out
                have q3 := HLE2.out
                have e7 : b0e.length = 7 := rfl
                rw [if_neg (by omega)] at q
                simp only [List.length_append, List.length_singleton] at q q2 q3 ⊢
                omega)
               have hlen := HLT.out.1
               simp only [List.length_append, List.length_cons, List.length_nil] at hlen
               obtain ⟨A1, hA1, hcA1⟩ := catx (P := Tryz.prog) M [104, 97, 110, 100, 108, 101, 114, 10] (x := ba M) rfl (y := ⟨#[104, 97, 110, 100, 108, 101, 114, 10]⟩) rfl (by (try simp); omega)
               obtain ⟨A2, hA2, hcA2⟩ := catx (P := Tryz.prog) A1 (a0d op d n m imm kind) (x := ba A1) rfl (y := ba (a0d op d n m imm kind)) rfl (by rw [hA1]; (try simp); omega)
               obtain ⟨A3, hA3, hcA3⟩ := catx (P := Tryz.prog) A2 [10] (x := ba A2) rfl (y := ⟨#[10]⟩) rfl (by rw [hA2]; rw [hA1]; (try simp); omega)
               have HA := h_ (show A3 = ((K1 ++ L10 (a0l regs 0)) ++ L10 (code.map insT)) ++ (if (j + 1) = 0 then [] else (b0e ++ [10]) ++ L10 ((hand.take (j + 1)).map insT)) from by rw [← HLT.out.2, hA3, hA2, hA1]; simp)
               clear hA1 hA2 hA3
               have hjb : ((j : Int) == 0) = true := by rw [hj0e]; rfl
               clear hlen hj0e
               go_wp2_with fail
               refine (HPR.out _).mono ?_
               rintro e w3 ⟨rfl, hb⟩
               have HB3 := h_ (bt_ HBs.out hb)
               clear hb
               go_wp2_with fail
               go_roundw
               case rel => exact ⟨j + 1, _, by omega, rfl, by go_num, HA, HB3.out⟩
               case measure => simp [intOf] <;> omega
              ·have HLT := h_ (show M.length + (a0d op d n m imm kind ++ [10]).length ≤ 20000 ∧ M ++ (a0d op d n m imm kind ++ [10]) = ((K1 ++ L10 (a0l regs 0)) ++ L10 (code.map insT)) ++ (if (j + 1) = 0 then [] else (b0e ++ [10]) ++ L10 ((hand.take (j + 1)).map insT)) from by
                have e : M ++ (a0d op d n m imm kind ++ [10]) = ((K1 ++ L10 (a0l regs 0)) ++ L10 (code.map insT)) ++ (if (j + 1) = 0 then [] else (b0e ++ [10]) ++ L10 ((hand.take (j + 1)).map insT)) := by
                 rw [HM.out, if_neg hj0e, if_neg (by omega), HT2.out]; simp [insT]
                refine ⟨?_, e⟩
                have q := congrArg List.length e
                have q2 := HLX.out
                have q3 := HLE2.out
                have e7 : b0e.length = 7 := rfl
                rw [if_neg (by omega)] at q
                simp only [List.length_append, List.length_singleton] at q q2 q3 ⊢
                omega)
               have hlen := HLT.out.1
               simp only [List.length_append, List.length_cons, List.length_nil] at hlen
               obtain ⟨A1, hA1, hcA1⟩ := catx (P := Tryz.prog) M (a0d op d n m imm kind) (x := ba M) rfl (y := ba (a0d op d n m imm kind)) rfl (by (try simp); omega)
               obtain ⟨A2, hA2, hcA2⟩ := catx (P := Tryz.prog) A1 [10] (x := ba A1) rfl (y := ⟨#[10]⟩) rfl (by rw [hA1]; (try simp); omega)
               have HA := h_ (show A2 = ((K1 ++ L10 (a0l regs 0)) ++ L10 (code.map insT)) ++ (if (j + 1) = 0 then [] else (b0e ++ [10]) ++ L10 ((hand.take (j + 1)).map insT)) from by rw [← HLT.out.2, hA2, hA1]; simp)
               clear hA1 hA2
               have hjb : ((j : Int) == 0) = false := by rw [beq_eq_false_iff_ne]; omega
               clear hlen hj0e
               go_wp2_with fail
               refine (HPR.out _).mono ?_
               rintro e w3 ⟨rfl, hb⟩
               have HB3 := h_ (bt_ HBs.out hb)
               clear hb
               go_wp2_with fail
               go_roundw
               case rel => exact ⟨j + 1, _, by omega, rfl, by go_num, HA, HB3.out⟩
               case measure => simp [intOf] <;> omega
             ·obtain rfl : j = hand.length := by omega
              have HFI := h_ (show M = ((L1 ++ L10 (tables.map (fun v => flat ((1, a0k) :: a0q v)))) ++ L10 (cells.map (fun p => flat ((1, b0t) :: c0h p.1 p.2)))) ++ L10 (a0m 0 (cores.take (k + 1))) from by
               rw [← HTL.out.1, HM.out]
               by_cases e : hand = []
               ·rw [HEQ0.out e, e]; simp
               ·rw [HEQ1.out e, if_neg (fun q => e (List.length_eq_zero_iff.1 q)), List.take_length])
              have HBv := h_ (bt_ HBw.out HBs.out)
              clear HM hjl hj HBs
              go_wp2_with fail
              clear n4 hbc HMc
              go_roundw
              case rel => exact ⟨k + 1, _, by omega, rfl, by go_num, HFI, HBv.out⟩
              case measure => simp [intOf] <;> omega)
      ·obtain rfl : k = cores.length := by omega
       rw [List.take_length] at HK
       have HFI := HK
       clear HK
       have m3 := HMy.out.cell 3
       have m4 := HMy.out.cell 4
       have m5 := HMy.out.cell 5
       have m6 := HMy.out.cell 6
       have m7 := HMy.out.cell 7
       have m8 := HMy.out.cell 8
       have m9 := HMy.out.cell 9
       simp only [gz_, gs_] at m3 m4 m5 m6 m7 m8 m9
       obtain ⟨Sc, hcond⟩ := HG0.out.cond
       have HCP := h_ (fun (w2 : World) (k : Below w.heap.size w w2) => y0l cond cn w2 Sc _ (by have := HOK.out.count; dsimp only at this; omega) HRTC.out (hcond.below k))
       clear hcond
       dsimp only [condC, List.toArray] at HCP
       cases fa with
       | false =>
        have HLT := h_ (show K.length + ([101, 120, 105, 115, 116, 115, 32] ++ (a0f cond ++ [10])).length ≤ 20000 ∧ K ++ ([101, 120, 105, 115, 116, 115, 32] ++ (a0f cond ++ [10])) = TX from by
         have e : K ++ ([101, 120, 105, 115, 116, 115, 32] ++ (a0f cond ++ [10])) = TX := by rw [← HTX.out, HFI.out]; unfold g0g; simp [m0f, i0v]
         refine ⟨?_, e⟩
         have q := congrArg List.length e
         have q2 := HLT0.out
         rw [List.length_append] at q
         omega)
        have hlen := HLT.out.1
        simp only [List.length_append, List.length_cons, List.length_nil] at hlen
        obtain ⟨A1, hA1, hcA1⟩ := catx (P := Tryz.prog) K [101, 120, 105, 115, 116, 115, 32] (x := ba K) rfl (y := ⟨#[101, 120, 105, 115, 116, 115, 32]⟩) rfl (by (try simp); omega)
        obtain ⟨A2, hA2, hcA2⟩ := catx (P := Tryz.prog) A1 (a0f cond) (x := ba A1) rfl (y := ba (a0f cond)) rfl (by rw [hA1]; (try simp); omega)
        obtain ⟨A3, hA3, hcA3⟩ := catx (P := Tryz.prog) A2 [10] (x := ba A2) rfl (y := ⟨#[10]⟩) rfl (by rw [hA2]; rw [hA1]; (try simp); omega)
        have HA := h_ (show A3 = TX from by rw [← HLT.out.2, hA3, hA2, hA1]; simp)
        clear hlen hA1 hA2 hA3
        go_wp2_with fail
        refine (HCP.out wr (bt_ HB0.out HBR.out)).mono ?_
        rintro e w9 ⟨rfl, hb9⟩
        have HB9 := h_ (bt_ (bt_ HB0.out HBR.out) hb9)
        clear hb9
        go_wp2_with fail
        go_ret
        exact ⟨by rw [HA.out]; rfl, HB9.out⟩
       | true =>
        have HLT := h_ (show K.length + ([102, 111, 114, 97, 108, 108, 32] ++ (a0f cond ++ [10])).length ≤ 20000 ∧ K ++ ([102, 111, 114, 97, 108, 108, 32] ++ (a0f cond ++ [10])) = TX from by
         have e : K ++ ([102, 111, 114, 97, 108, 108, 32] ++ (a0f cond ++ [10])) = TX := by rw [← HTX.out, HFI.out]; unfold g0g; simp [m0f, i0u]
         refine ⟨?_, e⟩
         have q := congrArg List.length e
         have q2 := HLT0.out
         rw [List.length_append] at q
         omega)
        have hlen := HLT.out.1
        simp only [List.length_append, List.length_cons, List.length_nil] at hlen
        obtain ⟨A1, hA1, hcA1⟩ := catx (P := Tryz.prog) K [102, 111, 114, 97, 108, 108, 32] (x := ba K) rfl (y := ⟨#[102, 111, 114, 97, 108, 108, 32]⟩) rfl (by (try simp); omega)
        obtain ⟨A2, hA2, hcA2⟩ := catx (P := Tryz.prog) A1 (a0f cond) (x := ba A1) rfl (y := ba (a0f cond)) rfl (by rw [hA1]; (try simp); omega)
        obtain ⟨A3, hA3, hcA3⟩ := catx (P := Tryz.prog) A2 [10] (x := ba A2) rfl (y := ⟨#[10]⟩) rfl (by rw [hA2]; rw [hA1]; (try simp); omega)
        have HA := h_ (show A3 = TX from by rw [← HLT.out.2, hA3, hA2, hA1]; simp)
        clear hlen hA1 hA2 hA3
        go_wp2_with fail
        refine (HCP.out wr (bt_ HB0.out HBR.out)).mono ?_
        rintro e w9 ⟨rfl, hb9⟩
        have HB9 := h_ (bt_ (bt_ HB0.out HBR.out) hb9)
        clear hb9
        go_wp2_with fail
        go_ret
        exact ⟨by rw [HA.out]; rfl, HB9.out⟩
end
end Go.Proofs.YtmnojnopejhebaaGreat
