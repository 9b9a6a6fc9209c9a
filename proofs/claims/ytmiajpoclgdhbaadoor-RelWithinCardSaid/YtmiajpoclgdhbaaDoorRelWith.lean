/- Within. -/
import Derived.Test.YtmiajpoclgdhbaaDoorRelFold
namespace Go.Proofs.YtmiajpoclgdhbaaDoor
open Go.RowKit
set_option linter.unusedVariables false

set_option maxHeartbeats 3200000 in
theorem relwith_ok (h g n : Nat) (ws : List Nat) (pf pt : Option Addr) (cf ct : Nat) (fr to_ : List Bool) (w : World) (r : RelAt w h g n ws) (hn : n ≤ 128) (hwf : WF n ws) (hfl : fr.length = n) (htl : to_.length = n) (hf : Rds w 1 pf fr.length (fr.map Value.bool)) (ht : Rds w 1 pt to_.length (to_.map Value.bool)) (hT : TabW w) :
    Calls Tryd.prog 38 #[.pointer (some ⟨h, 0, none⟩), .slice pf fr.length cf, .slice pt to_.length ct] w fun e w' => e = .returned (.tuple #[.pointer (some ⟨w.heap.size + 1, 0, none⟩), .int .i64 0]) ∧ RelAt w' (w.heap.size + 1) w.heap.size n (withW n fr to_ ws) ∧ Below w.heap.size w w' := by
  have HR := Lib.hid r
  have HT := Lib.hid hT
  obtain ⟨_, _, ⟨c0, hc0, hBl⟩, _⟩ := r
  have hb0 : w.cell? ⟨h, 0, none⟩ = some (.slice (some ⟨g, 0, none⟩) n c0) := hBl.cell 0
  have hba := fun o => cell_alloc hb0 o
  have hba2 := fun o o2 => cell_alloc (cell_alloc hb0 o) o2
  clear hBl hT
  have hmk := mk_rows n hn
  have HN := Lib.hid (rel_laid w n)
  have HB := Lib.hid (show Below w.heap.size w ((w.alloc (.cells (madeCells #[.int .u64 0, .int .u64 0] (n * 2)) 67)).alloc (.cells #[.slice (some ⟨w.heap.size, 0, none⟩) n n] 64)) from below_alloc (below_alloc (Below.refl _ _) _) _)
  have HWF := Lib.hid (show ∀ p ∈ prTo ws n, p.2 < n from fun p hp => by
    obtain ⟨h1, h2, h3⟩ := prTo_mem.1 hp
    refine hwf p.1 h1 p.2 ?_
    rw [rowOf_filter, List.mem_filter]; exact ⟨List.mem_range.2 h2, h3⟩)
  have HFR := Lib.hid hf
  have HTO := Lib.hid ht
  have hfi : (fr.length : Int) = n := by omega
  have hti : (to_.length : Int) = n := by omega
  clear hwf hf ht
  go_enter Tryd.func38, Tryd.ntmps38
  go_wp2_with fail
  obtain ⟨w1, hw1⟩ : ∃ w1, w1 = (w.alloc (.cells (madeCells #[.int .u64 0, .int .u64 0] (n * 2)) 67)).alloc (.cells #[.slice (some ⟨w.heap.size, 0, none⟩) n n] 64) := ⟨_, rfl⟩
  have hz1 : w1.heap.size = w.heap.size + 2 := by rw [hw1]; simp
  rw [← hw1] at HN HB ⊢
  clear hw1 hmk hba hba2
  refine (relpairs_any h g n ws w1 (HR.out.kept (below_grown HB.out none) (by simp) (by simp)) hn (HT.out.belowS HB.out)).mono ?_
  rintro e w2 ⟨v, rfl, ho, hb⟩
  obtain ⟨p, c, rfl, _⟩ := own_form ho
  obtain ⟨hrd, _, hrp⟩ := Rds.own ho
  have HRD := Lib.hid hrd
  have HNE := Lib.hid (fun a ha => (hrp a ha).1)
  have HB := Lib.hid (below_trans HB.out hb)
  have HN := Lib.hid (HN.out.below hb)
  have hpl := prTo_len ws n
  have HPM := Lib.hid (fun (k : Nat) (hk : k < (prTo ws n).length) => prTo_mem.1 (List.getElem_mem hk))
  generalize hpr : prTo ws n = l at *
  have HLP := Lib.hid hpr
  clear ho hb hrd hrp hpr
  have hll : l.length ≤ 16384 := by omega
  go_wp2_with fail
  go_loopw [40] (fun i wr => ∃ k : Nat, k ≤ l.length ∧ i = .int .i64 k ∧ RelAt wr (w.heap.size + 1) w.heap.size n (foldW n (fun p => fr.getD p.1 false && to_.getD p.2 false) id (l.take k)) ∧ Rds wr 2 p l.length (prCells l) ∧ Below w.heap.size w wr ∧ w.heap.size + 2 ≤ wr.heap.size) (fun i _ => l.length - (intOf i).toNat)
  case atStart => exact ⟨0, by omega, rfl, by rw [List.take_zero]; exact HN.out, HRD.out, HB.out, by have := HN.out.hlt; omega⟩
  case round =>
    clear HN HRD HB
    obtain ⟨k, hk, rfl, hR, hRD, hB, hz⟩ := hrel
    obtain ⟨wo, rfl⟩ : ∃ wo : World, wo = wr := ⟨_, rfl⟩
    by_cases hlt : k < l.length
    · obtain ⟨gp, op, hpe, p0, p1⟩ := pr_at hRD hlt
      subst hpe
      have hgp : w.heap.size + 2 ≤ gp := by have := HNE.out _ rfl; simp at this; omega
      obtain ⟨m1, m2, m3⟩ := HPM.out k hlt
      have HTS := Lib.hid (take_snoc' l k hlt)
      have HSN := Lib.hid (foldW_snoc n (fun p => fr.getD p.1 false && to_.getD p.2 false) id (l.take k) l[k])
      have hLW := foldW_len n (fun p => fr.getD p.1 false && to_.getD p.2 false) id (l.take k)
      have hk0 : (0 : Int) ≤ k := by omega
      have hki : (k : Int) < l.length := by omega
      have HR0 := Lib.hid hR
      obtain ⟨_, _, ⟨c9, hc9, hBl⟩, _⟩ := hR
      have hra := fun o => cell_alloc (show wo.cell? ⟨w.heap.size + 1, 0, none⟩ = some (.slice (some ⟨w.heap.size, 0, none⟩) n c9) from hBl.cell 0) o
      have HRD := Lib.hid hRD
      have HB := Lib.hid hB
      obtain ⟨lk, hlk⟩ : ∃ q, q = l[k] := ⟨_, rfl⟩
      rw [← hlk] at p0 p1 m1 m2 m3 HSN
      have HLK := Lib.hid hlk
      clear hRD hB hBl hlk
      obtain ⟨a, b⟩ := lk
      simp only at p0 p1 m1 m2 m3
      have hbn : b < n := by have := HWF.out l[k] (by exact List.getElem_mem hlt); rw [← HLK.out] at this; exact this
      obtain ⟨g4, o4, hp4, q4⟩ := bool_at (HFR.out.below HB.out) (show a < fr.length by omega)
      subst hp4
      obtain ⟨g5, o5, hp5, q5⟩ := bool_at (HTO.out.below HB.out) (show b < to_.length by omega)
      subst hp5
      have q4a := fun o => cell_alloc q4 o
      have q5a := fun o => cell_alloc q5 o
      have ha0 : (0 : Int) ≤ (a : Int) := by omega
      have ha1 : (a : Int) < n := by omega
      have hb0 : (0 : Int) ≤ (b : Int) := by omega
      have hb1 : (b : Int) < n := by omega
      have HCD := Lib.hid (show ∀ s1 s2, fr.getD a false = s1 → to_.getD b false = s2 → foldW n (fun p => fr.getD p.1 false && to_.getD p.2 false) id (l.take k ++ [(a, b)]) = if (s1 && s2) = true then addP (foldW n (fun p => fr.getD p.1 false && to_.getD p.2 false) id (l.take k)) a b else foldW n (fun p => fr.getD p.1 false && to_.getD p.2 false) id (l.take k) from fun s1 s2 e1 e2 => by subst e1 e2; exact HSN.out)
      obtain ⟨s1, hs1⟩ : ∃ s, fr.getD a false = s := ⟨_, rfl⟩
      obtain ⟨s2, hs2⟩ : ∃ s, to_.getD b false = s := ⟨_, rfl⟩
      have HSN := Lib.hid (HCD.out s1 s2 hs1 hs2)
      rw [hs1] at q4a
      rw [hs2] at q5a
      clear hs1 hs2 HCD q4 q5
      have HRK := Lib.hid (fun (e : (s1 && s2) = false) => show RelAt (wo.alloc (.cells #[.int .i64 (a : Nat), .int .i64 (b : Nat)] 51)) (w.heap.size + 1) w.heap.size n (foldW n (fun p => fr.getD p.1 false && to_.getD p.2 false) id (l.take k ++ [(a, b)])) from by rw [HSN.out, e]; exact HR0.out.below (below_alloc (Below.refl _ _) _))
      have HRDK := Lib.hid (HRD.out.below (below_alloc (Below.refl _ _) (.cells #[.int .i64 (a : Nat), .int .i64 (b : Nat)] 51)))
      have HBK := Lib.hid (below_alloc HB.out (.cells #[.int .i64 (a : Nat), .int .i64 (b : Nat)] 51))
      have HZK := Lib.hid (show w.heap.size + 2 ≤ (wo.alloc (.cells #[.int .i64 (a : Nat), .int .i64 (b : Nat)] 51)).heap.size from by simp; omega)
      cases s1
      · have HX := Lib.hid (HRK.out rfl)
        go_wp2_with fail
        go_roundw
        case rel => exact ⟨k + 1, by omega, by go_num, by rw [HTS.out, ← HLK.out]; exact HX.out, HRDK.out, HBK.out, HZK.out⟩
        case measure => simp [intOf]; omega
      · cases s2
        · have HX := Lib.hid (HRK.out rfl)
          go_wp2_with fail
          go_roundw
          case rel => exact ⟨k + 1, by omega, by go_num, by rw [HTS.out, ← HLK.out]; exact HX.out, HRDK.out, HBK.out, HZK.out⟩
          case measure => simp [intOf]; omega
        · have HSN := Lib.hid (show foldW n (fun p => fr.getD p.1 false && to_.getD p.2 false) id (l.take k ++ [(a, b)]) = addP (foldW n (fun p => fr.getD p.1 false && to_.getD p.2 false) id (l.take k)) a b from HSN.out)
          clear HRK HRDK HBK HZK
          have HJ := Lib.hid (show Calls _ _ _ _ _ from rowset_any w.heap.size (a * 2) b (foldW n (fun p => fr.getD p.1 false && to_.getD p.2 false) id (l.take k)) ((wo.alloc (.cells #[.int .i64 (a : Nat), .int .i64 (b : Nat)] 51)).drewN 1) ((HR0.out.below (below_alloc (Below.refl _ _) _)).dn 1).2.2.2 (by omega) (by omega))
          have hc0 : (0 : Int) ≤ (a : Int) := by omega
          have hc1 : (a : Int) < n := by omega
          go_wp2_with fail
          refine region_tail 9 (by kernel_rfl) (by kernel_rfl) ?_
          simp only [List.take_succ_cons, List.take_zero, List.drop_succ_cons, List.drop_zero]
          repeat still_step
          refine wpStill_nil ?_
          go_wp2_with fail
          refine (HJ.out).mono ?_
          rintro e w3 ⟨rfl, hW3, hG3⟩
          have hb0 : Below wo.heap.size wo ((wo.alloc (.cells #[.int .i64 (a : Nat), .int .i64 (b : Nat)] 51)).drewN 1) := below_drewN (below_alloc (Below.refl _ _) _) 1
          have HR3 := Lib.hid (show RelAt w3 (w.heap.size + 1) w.heap.size n (addP (foldW n (fun p => fr.getD p.1 false && to_.getD p.2 false) id (l.take k)) a b) from by
            have e : addP (foldW n (fun p => fr.getD p.1 false && to_.getD p.2 false) id (l.take k)) a b = setW (foldW n (fun p => fr.getD p.1 false && to_.getD p.2 false) id (l.take k)) (a * 2 + b / 64) (b % 64) := by unfold addP; rw [show 2 * a = a * 2 by omega]
            rw [e]
            exact (HR0.out.below hb0).put (by simp [setW]) hW3 hG3)
          have HRD3 := Lib.hid ((HRD.out.below hb0).grown hG3 (fun q hq => by injection hq with hq; subst hq; simp; omega))
          have HB3 := Lib.hid ((HB.out.trans (hb0.mono (by omega))).grown hG3 (by simp; omega) (fun j hj => by injection hj with hj; omega))
          have HZ3 := Lib.hid (show w.heap.size + 2 ≤ w3.heap.size from by have := hG3.size; simp at this; omega)
          clear hW3 hG3 hb0 HR0 HRD HB HJ hra p0 p1
          go_wp2_with fail
          go_roundw
          case rel => exact ⟨k + 1, by omega, by go_num, by rw [HTS.out, ← HLK.out, HSN.out]; simpa using HR3.out, HRD3.out, HB3.out, HZ3.out⟩
          case measure => simp [intOf]; omega
    · obtain rfl : k = l.length := by omega
      rw [List.take_length] at hR
      have HR0 := Lib.hid hR
      have HB := Lib.hid hB
      clear hR hRD hB
      go_wp2_with fail
      go_ret2
      exact ⟨rfl, by rw [withW, HLP.out]; exact HR0.out, HB.out⟩
theorem relwith_bad (h g n : Nat) (ws : List Nat) (pf pt : Option Addr) (cf ct lf lt : Nat) (w : World) (r : RelAt w h g n ws) (hn : n ≤ 128) (hfl : lf = n) (htl : lt ≠ n) :
    Calls Tryd.prog 38 #[.pointer (some ⟨h, 0, none⟩), .slice pf lf cf, .slice pt lt ct] w fun e w' => e = .returned (.tuple #[.pointer none, .int .i64 10]) ∧ w = w' := by
  obtain ⟨_, _, ⟨c0, hc0, hBl⟩, _⟩ := r
  have hb0 : w.cell? ⟨h, 0, none⟩ = some (.slice (some ⟨g, 0, none⟩) n c0) := hBl.cell 0
  clear hBl
  subst hfl
  have h1 : ((lt : Int) == (lf : Int)) = false := by simp; omega
  have h2 : ((lt : Int) != (lf : Int)) = true := by simp; omega
  go_enter Tryd.func38, Tryd.ntmps38
  go_wp2_with fail
  go_ret2
  exact ⟨rfl, rfl⟩

end Go.Proofs.YtmiajpoclgdhbaaDoor
