/- proper.Read: EXACTLY. -/
import Derived.Test.YtmnojnopejhebaaGreatMgai
import Derived.Test.YtmnojnopejhebaaGreatMgam
import Derived.Test.YtmnojnopejhebaaGreatMgar
import Derived.Test.YtmnojnopejhebaaGreatMgaw
import Derived.Test.YtmnojnopejhebaaGreatMgba
import Derived.Deep.RegionHeld
namespace Go.Proofs.YtmnojnopejhebaaGreat
set_option linter.unusedVariables false
set_option linter.unusedSimpArgs false
set_option maxRecDepth 100000
set_option maxHeartbeats 25600000
section
open Go.RowKit
theorem lwords_any (w : World) {p q : Option Addr} {n c d : Nat} {l : List Nat} (hA : Rds w 1 p n (l.map u64V)) (hB : Rds w 1 q n (l.map u64V)) (hn : n ≤ maxLen) :
  Calls Tryz.prog 33 #[.slice p n c, .slice q n d] w fun e w' => e = .returned (.bool true) ∧ ∃ m, w' = w.drewN m := by
 have HA := h_ hA
 have HB := h_ hB
 have HN := h_ hn
 unfold maxLen at HN
 clear hA hB hn
 go_enter Tryz.func33, Tryz.ntmps33
 go_wp2_with fail
 go_loopw [5] (fun i wr => ∃ k : Nat, k ≤ n ∧ i = .int .i64 k ∧ ∃ j, wr = w.drewN j) (fun i _ => n - (intOf i).toNat)
 case atStart => exact ⟨0, by omega, rfl, 0, rfl⟩
 case round =>
  obtain ⟨k, hk, rfl, j, rfl⟩ := hrel
  by_cases hkl : k < n
  ·have hk0 : (0 : Int) ≤ k := by omega
   have hkn : (k : Int) < n := by omega
   have HN2 := HN.out
   obtain ⟨g, off, u, rfl, hu, hc⟩ := HA.out.at_ (j := k) (by omega)
   obtain ⟨g2, off2, u2, rfl, hu2, hc2⟩ := HB.out.at_ (j := k) (by omega)
   obtain rfl : u = u2 := by rw [hu] at hu2; injection hu2
   obtain ⟨x, rfl⟩ : ∃ x : Int, u = .int .u64 x := by
    simp only [List.getElem?_map] at hu
    cases hh : l[k]? with
    | none => rw [hh] at hu; cases hu
    | some q => rw [hh] at hu; injection hu with hu; exact ⟨_, hu.symm⟩
   clear hu hu2
   go_wp2_with fail
   go_quiet (fail)
   go_wp2_with fail
   go_roundw
   case rel => exact ⟨k + 1, by omega, by go_num, _, rfl⟩
   case measure => simp [intOf] <;> omega
  ·obtain rfl : k = n := by omega
   go_wp2_with fail
   go_ret
   exact ⟨rfl, _, rfl⟩
theorem lcode_any (w : World) {p q : Option Addr} {n c d : Nat} {l : List Ins} (hA : Rds w 6 p n (insL l)) (hB : Rds w 6 q n (insL l)) (hn : n ≤ maxLen) :
  Calls Tryz.prog 34 #[.slice p n c, .slice q n d] w fun e w' => e = .returned (.bool true) ∧ ∃ m, w' = w.drewN m := by
 have HA := h_ hA
 have HB := h_ hB
 have HN := h_ hn
 unfold maxLen at HN
 clear hA hB hn
 go_enter Tryz.func34, Tryz.ntmps34
 go_wp2_with fail
 go_loopw [5] (fun i wr => ∃ k : Nat, k ≤ n ∧ i = .int .i64 k ∧ ∃ j, wr = w.drewN j) (fun i _ => n - (intOf i).toNat)
 case atStart => exact ⟨0, by omega, rfl, 0, rfl⟩
 case round =>
  obtain ⟨k, hk, rfl, j, rfl⟩ := hrel
  by_cases hkl : k < n
  ·have hk0 : (0 : Int) ≤ k := by omega
   have hkn : (k : Int) < n := by omega
   have HN2 := HN.out
   have HL := h_ (show k < l.length by have := HA.out.1; rw [insL_len] at this; omega)
   obtain ⟨g, off, u0, hp, hu0, a0⟩ := HA.out.at_ (j := k * 6) (by omega)
   obtain ⟨g2, off2, v0, hq, hv0, b0⟩ := HB.out.at_ (j := k * 6) (by omega)
   obtain rfl : u0 = v0 := by rw [hu0] at hv0; injection hv0
   obtain ⟨g', off', u1, hp', hu1, a1⟩ := HA.out.at_ (j := k * 6 + 1) (by omega)
   obtain ⟨rfl, rfl⟩ : g = g' ∧ off = off' := by rw [hp] at hp'; injection hp' with hp'; injection hp' with h1 h2; exact ⟨h1, h2⟩
   obtain ⟨g2', off2', v1, hq', hv1, b1⟩ := HB.out.at_ (j := k * 6 + 1) (by omega)
   obtain ⟨rfl, rfl⟩ : g2 = g2' ∧ off2 = off2' := by rw [hq] at hq'; injection hq' with hq'; injection hq' with h1 h2; exact ⟨h1, h2⟩
   obtain rfl : u1 = v1 := by rw [hu1] at hv1; injection hv1
   clear hp' hq'
   rw [← Nat.add_assoc] at a1 b1
   obtain ⟨g', off', u2, hp', hu2, a2⟩ := HA.out.at_ (j := k * 6 + 2) (by omega)
   obtain ⟨rfl, rfl⟩ : g = g' ∧ off = off' := by rw [hp] at hp'; injection hp' with hp'; injection hp' with h1 h2; exact ⟨h1, h2⟩
   obtain ⟨g2', off2', v2, hq', hv2, b2⟩ := HB.out.at_ (j := k * 6 + 2) (by omega)
   obtain ⟨rfl, rfl⟩ : g2 = g2' ∧ off2 = off2' := by rw [hq] at hq'; injection hq' with hq'; injection hq' with h1 h2; exact ⟨h1, h2⟩
   obtain rfl : u2 = v2 := by rw [hu2] at hv2; injection hv2
   clear hp' hq'
   rw [← Nat.add_assoc] at a2 b2
   obtain ⟨g', off', u3, hp', hu3, a3⟩ := HA.out.at_ (j := k * 6 + 3) (by omega)
   obtain ⟨rfl, rfl⟩ : g = g' ∧ off = off' := by rw [hp] at hp'; injection hp' with hp'; injection hp' with h1 h2; exact ⟨h1, h2⟩
   obtain ⟨g2', off2', v3, hq', hv3, b3⟩ := HB.out.at_ (j := k * 6 + 3) (by omega)
   obtain ⟨rfl, rfl⟩ : g2 = g2' ∧ off2 = off2' := by rw [hq] at hq'; injection hq' with hq'; injection hq' with h1 h2; exact ⟨h1, h2⟩
   obtain rfl : u3 = v3 := by rw [hu3] at hv3; injection hv3
   clear hp' hq'
   rw [← Nat.add_assoc] at a3 b3
   obtain ⟨g', off', u4, hp', hu4, a4⟩ := HA.out.at_ (j := k * 6 + 4) (by omega)
   obtain ⟨rfl, rfl⟩ : g = g' ∧ off = off' := by rw [hp] at hp'; injection hp' with hp'; injection hp' with h1 h2; exact ⟨h1, h2⟩
   obtain ⟨g2', off2', v4, hq', hv4, b4⟩ := HB.out.at_ (j := k * 6 + 4) (by omega)
   obtain ⟨rfl, rfl⟩ : g2 = g2' ∧ off2 = off2' := by rw [hq] at hq'; injection hq' with hq'; injection hq' with h1 h2; exact ⟨h1, h2⟩
   obtain rfl : u4 = v4 := by rw [hu4] at hv4; injection hv4
   clear hp' hq'
   rw [← Nat.add_assoc] at a4 b4
   obtain ⟨g', off', u5, hp', hu5, a5⟩ := HA.out.at_ (j := k * 6 + 5) (by omega)
   obtain ⟨rfl, rfl⟩ : g = g' ∧ off = off' := by rw [hp] at hp'; injection hp' with hp'; injection hp' with h1 h2; exact ⟨h1, h2⟩
   obtain ⟨g2', off2', v5, hq', hv5, b5⟩ := HB.out.at_ (j := k * 6 + 5) (by omega)
   obtain ⟨rfl, rfl⟩ : g2 = g2' ∧ off2 = off2' := by rw [hq] at hq'; injection hq' with hq'; injection hq' with h1 h2; exact ⟨h1, h2⟩
   obtain rfl : u5 = v5 := by rw [hu5] at hv5; injection hv5
   clear hp' hq'
   rw [← Nat.add_assoc] at a5 b5
   subst hp hq
   obtain ⟨z0, z1, z2, z3, z4, z5, e0, e1, e2, e3, e4, e5⟩ := insL_at l k HL.out
   rw [e0] at hu0; injection hu0 with hu0; subst hu0
   rw [e1] at hu1; injection hu1 with hu1; subst hu1
   rw [e2] at hu2; injection hu2 with hu2; subst hu2
   rw [e3] at hu3; injection hu3 with hu3; subst hu3
   rw [e4] at hu4; injection hu4 with hu4; subst hu4
   rw [e5] at hu5; injection hu5 with hu5; subst hu5
   clear hv0 e0 hv1 e1 hv2 e2 hv3 e3 hv4 e4 hv5 e5
   go_wp2_with fail
   go_quiet (fail)
   go_wp2_with fail
   go_roundw
   case rel => exact ⟨k + 1, by omega, by go_num, _, rfl⟩
   case measure => simp [intOf] <;> omega
  ·obtain rfl : k = n := by omega
   go_wp2_with fail
   go_ret
   exact ⟨rfl, _, rfl⟩
theorem ltables_any (w : World) {p q : Option Addr} {n c d : Nat} {l : List Nat} (hA : Rds w 1 p n (l.map u64V)) (hB : Rds w 1 q n (l.map u64V)) (hn : n ≤ maxLen) :
  Calls Tryz.prog 12 #[.slice p n c, .slice q n d] w fun e w' => e = .returned (.bool true) ∧ ∃ m, w' = w.drewN m := by
 have HW := h_ (lwords_any (c := c) (d := d) w hA hB hn)
 clear hA hB hn
 go_enter Tryz.func12, Tryz.ntmps12
 go_wp2_with fail
 refine (HW.out).mono ?_
 rintro e w2 ⟨rfl, m, rfl⟩
 go_wp2_with fail
 go_ret
 exact ⟨rfl, _, rfl⟩
structure TestRd (w : World) (x : SrcA) (v : SrcV) : Prop where
 cells : ∃ p c, v.vC = .slice p x.cells.length c ∧ Rds w 2 p x.cells.length (cellL x.cells)
 cores : ∃ p c, v.vCo = .slice p x.cores.length c ∧ Rds w 5 p x.cores.length (coresC v.cvs x.cores)
 lenc : v.cvs.length = x.cores.length
 core : ∀ (i : Nat) (h : i < x.cores.length) (h' : i < v.cvs.length), (∃ p c, v.cvs[i].r = .slice p x.cores[i].regs.length c ∧ Rds w 1 p x.cores[i].regs.length (x.cores[i].regs.map u64V)) ∧ (∃ p c, v.cvs[i].c = .slice p x.cores[i].code.length c ∧ Rds w 6 p x.cores[i].code.length (insL x.cores[i].code)) ∧ (∃ p c, v.cvs[i].h = .slice p x.cores[i].hand.length c ∧ Rds w 6 p x.cores[i].hand.length (insL x.cores[i].hand))
 cond : ∃ S, CT.At w S x.cond (condC v)
 sizes : Sizes x 20000
theorem Parts.rd {w : World} {f : Nat → Nat} {B : Nat} {x : SrcA} {v : SrcV} (h : Parts w f B x v) (hs : Sizes x 20000) : TestRd w x v := by
 have own : ∀ {l : Nat} {e : TypeId} {size : Nat} {v : Value} {n : Nat} {xs : List Value}, OwnL w f B l e size v n xs → ∃ p c, v = .slice p n c ∧ Rds w size p n xs := fun h => by
  obtain ⟨p, c, h1, h2, _⟩ := Rds.of_own h.1; exact ⟨p, c, h1, h2⟩
 exact ⟨own h.cells, own h.cores, h.lenc, fun i h1 h2 => ⟨own (h.core i h1 h2).1, own (h.core i h1 h2).2.1, own (h.core i h1 h2).2.2⟩, ⟨_, h.cond⟩, hs⟩
theorem TestRd.below {w w' : World} {x : SrcA} {v : SrcV} (h : TestRd w x v) (hb : Below w.heap.size w w') : TestRd w' x v := by
 have k : ∀ {size : Nat} {v : Value} {n : Nat} {xs : List Value}, (∃ p c, v = .slice p n c ∧ Rds w size p n xs) → ∃ p c, v = .slice p n c ∧ Rds w' size p n xs := fun ⟨p, c, h1, h2⟩ => ⟨p, c, h1, h2.below hb⟩
 obtain ⟨S, hc⟩ := h.cond
 exact ⟨k h.cells, k h.cores, h.lenc, fun i h1 h2 => ⟨k (h.core i h1 h2).1, k (h.core i h1 h2).2.1, k (h.core i h1 h2).2.2⟩, ⟨S, hc.below hb⟩, h.sizes⟩
theorem TestRd.like {w : World} {x y : SrcA} {v : SrcV} (h : TestRd w y v) (h1 : x.cells = y.cells) (h2 : x.cores = y.cores) (h3 : x.cond = y.cond) (hs : Sizes x 20000) : TestRd w x v := by
 obtain ⟨a, b, c, d, e, _⟩ := h
 rw [← h1] at a; rw [← h2] at b c
 refine ⟨a, b, c, ?_, by rw [h3]; exact e, hs⟩
 rw [h2]; exact d
theorem coresC_at : ∀ (vl : List CoreV) (l : List CoreA) (k : Nat) (h : k < l.length) (h' : k < vl.length) (j : Nat), j < 5 → (coresC vl l)[k * 5 + j]? = (coreC vl[k] l[k])[j]?
 | a :: vl, b :: l, 0, _, _, j, hj => by
  show (coreC a b ++ coresC vl l)[0 * 5 + j]? = _
  rw [List.getElem?_append_left (by simp [coreC]; omega), Nat.zero_mul, Nat.zero_add]; rfl
 | a :: vl, b :: l, k + 1, h, h', j, hj => by
  show (coreC a b ++ coresC vl l)[(k + 1) * 5 + j]? = _
  rw [List.getElem?_append_right (by simp [coreC]; omega), show (k + 1) * 5 + j - (coreC a b).length = k * 5 + j by simp [coreC]; omega]
  exact coresC_at vl l k (by simpa using h) (by simpa using h') j hj
theorem TestRd.coreAt {w : World} {x : SrcA} {v : SrcV} (h : TestRd w x v) {p : Option Addr} {c : Nat} (hv : v.vCo = .slice p x.cores.length c) {k : Nat} (hk : k < x.cores.length) : ∃ (g off : Nat) (cv : CoreV), p = some ⟨g, off, none⟩ ∧ (∀ j, j < 5 → w.cell? ⟨g, off + (k * 5 + j), none⟩ = (coreC cv x.cores[k])[j]?) ∧ (∃ p c, cv.r = .slice p x.cores[k].regs.length c ∧ Rds w 1 p x.cores[k].regs.length (x.cores[k].regs.map u64V)) ∧ (∃ p c, cv.c = .slice p x.cores[k].code.length c ∧ Rds w 6 p x.cores[k].code.length (insL x.cores[k].code)) ∧ (∃ p c, cv.h = .slice p x.cores[k].hand.length c ∧ Rds w 6 p x.cores[k].hand.length (insL x.cores[k].hand)) := by
 obtain ⟨p', c', hv', hr⟩ := h.cores
 rw [hv] at hv'
 injection hv' with e1 _ _
 subst e1
 obtain ⟨g, off, hp, hc⟩ := hr.2 (by omega)
 have hk' : k < v.cvs.length := by rw [h.lenc]; exact hk
 have q := h.core k hk hk'
 exact ⟨g, off, v.cvs[k], hp, fun j hj => (hc _ (by omega)).trans (coresC_at _ _ k hk hk' j hj), q⟩
theorem lsame_any (w : World) {x : SrcA} {v u : SrcV} (hA : TestRd w x v) (hB : TestRd w x u) :
  Calls Tryz.prog 11 #[.agg #[.string x.name, v.vC, v.vCo, .bool x.fa, v.k0, v.k1, v.k2, v.k3, v.k4, v.k5], .agg #[.string x.name, u.vC, u.vCo, .bool x.fa, u.k0, u.k1, u.k2, u.k3, u.k4, u.k5]] w fun e w' => e = .returned (.bool true) ∧ Below w.heap.size w w' := by
 obtain ⟨p1, c1, e1, _⟩ := hA.cells
 obtain ⟨p2, c2, e2, _⟩ := hA.cores
 obtain ⟨p3, c3, e3, _⟩ := hB.cells
 obtain ⟨p4, c4, e4, _⟩ := hB.cores
 have hl1 := hA.sizes.cells
 have hl2 := hA.sizes.cores
 obtain ⟨vC, vCo, k0, k1, k2, k3, k4, k5, vT, vPT, vPC, vPCo, vPI, cvs, ivs⟩ := v
 obtain ⟨uC, uCo, j0, j1, j2, j3, j4, j5, uT, uPT, uPC, uPCo, uPI, cus, jvs⟩ := u
 dsimp only at e1 e2 e3 e4
 subst e1 e2 e3 e4
 have HB1 := h_ (show Below w.heap.size w ((w.alloc (.cells #[.string x.name, .slice p1 x.cells.length c1, .slice p2 x.cores.length c2, .bool x.fa, k0, k1, k2, k3, k4, k5] 31)).alloc (.cells #[.string x.name, .slice p3 x.cells.length c3, .slice p4 x.cores.length c4, .bool x.fa, j0, j1, j2, j3, j4, j5] 31)) from bl_ (bl_ (Below.refl _ _) _) _)
 have HV := h_ (hA.below HB1.out)
 have HU := h_ (hB.below HB1.out)
 have HM := h_ (show Blk ((w.alloc (.cells #[.string x.name, .slice p1 x.cells.length c1, .slice p2 x.cores.length c2, .bool x.fa, k0, k1, k2, k3, k4, k5] 31)).alloc (.cells #[.string x.name, .slice p3 x.cells.length c3, .slice p4 x.cores.length c4, .bool x.fa, j0, j1, j2, j3, j4, j5] 31)) 31 w.heap.size [.string x.name, .slice p1 x.cells.length c1, .slice p2 x.cores.length c2, .bool x.fa, k0, k1, k2, k3, k4, k5] from (Blk.new w _ _).alloc _)
 have HN := h_ (show Blk ((w.alloc (.cells #[.string x.name, .slice p1 x.cells.length c1, .slice p2 x.cores.length c2, .bool x.fa, k0, k1, k2, k3, k4, k5] 31)).alloc (.cells #[.string x.name, .slice p3 x.cells.length c3, .slice p4 x.cores.length c4, .bool x.fa, j0, j1, j2, j3, j4, j5] 31)) 31 (w.heap.size + 1) [.string x.name, .slice p3 x.cells.length c3, .slice p4 x.cores.length c4, .bool x.fa, j0, j1, j2, j3, j4, j5] from by simpa using Blk.new (w.alloc (.cells #[.string x.name, .slice p1 x.cells.length c1, .slice p2 x.cores.length c2, .bool x.fa, k0, k1, k2, k3, k4, k5] 31)) 31 [.string x.name, .slice p3 x.cells.length c3, .slice p4 x.cores.length c4, .bool x.fa, j0, j1, j2, j3, j4, j5])
 have HC := h_ (fun (w1 : World) (h1 : TestRd w1 x ⟨.slice p1 x.cells.length c1, .slice p2 x.cores.length c2, k0, k1, k2, k3, k4, k5, vT, vPT, vPC, vPCo, vPI, cvs, ivs⟩) (h2 : TestRd w1 x ⟨.slice p3 x.cells.length c3, .slice p4 x.cores.length c4, j0, j1, j2, j3, j4, j5, uT, uPT, uPC, uPCo, uPI, cus, jvs⟩) => show Calls Tryz.prog 32 #[.agg #[k0, k1, k2, k3, k4, k5], .agg #[j0, j1, j2, j3, j4, j5]] w1 fun e w' => e = .returned (.bool true) ∧ Below w1.heap.size w1 w' by
  obtain ⟨S, h1⟩ := h1.cond
  obtain ⟨S', h2⟩ := h2.cond
  have k := same_any x.cond x.cond w1 S S' _ _ h1 h2
  rw [sameT_refl] at k
  exact k)
 clear hA hB
 go_enter Tryz.func11, Tryz.ntmps11
 have hb0 := HM.out.lt
 have hb1 := HN.out.lt
 have m0 := HM.out.cell 0
 have m1 := HM.out.cell 1
 have m2 := HM.out.cell 2
 have m3 := HM.out.cell 3
 have m4 := HM.out.cell 4
 have m5 := HM.out.cell 5
 have m6 := HM.out.cell 6
 have m7 := HM.out.cell 7
 have m8 := HM.out.cell 8
 have m9 := HM.out.cell 9
 have n0 := HN.out.cell 0
 have n1 := HN.out.cell 1
 have n2 := HN.out.cell 2
 have n3 := HN.out.cell 3
 have n4 := HN.out.cell 4
 have n5 := HN.out.cell 5
 have n6 := HN.out.cell 6
 have n7 := HN.out.cell 7
 have n8 := HN.out.cell 8
 have n9 := HN.out.cell 9
 simp only [gz_, gs_] at m0 n0 m1 n1 m2 n2 m3 n3 m4 n4 m5 n5 m6 n6 m7 n7 m8 n8 m9 n9
 have hf : (x.fa != x.fa) = false := by cases x.fa <;> rfl
 have hnm : (x.name.toList != x.name.toList) = false := by simp
 go_wp2_with fail
 generalize (w.alloc (.cells #[.string x.name, .slice p1 x.cells.length c1, .slice p2 x.cores.length c2, .bool x.fa, k0, k1, k2, k3, k4, k5] 31)).alloc (.cells #[.string x.name, .slice p3 x.cells.length c3, .slice p4 x.cores.length c4, .bool x.fa, j0, j1, j2, j3, j4, j5] 31) = w1 at *
 have hh : w.heap.size < w.heap.size + 1 := by omega
 have HSZ := h_ (show w.heap.size ≤ w1.heap.size by omega)
 have HLE := h_ (show w.heap.size ≤ w.heap.size from Nat.le_refl _)
 clear m0 n0 m1 n1 m2 n2 m3 n3 m4 n4 m5 n5 m6 n6 m7 n7 m8 n8 m9 n9 hf hnm
 refine (HC.out _ HV.out HU.out).mono ?_
 rintro e w2 ⟨rfl, hb⟩
 have HV2 := h_ (HV.out.below hb)
 have HU2 := h_ (HU.out.below hb)
 have HM2 := h_ (HM.out.below hb)
 have HN2 := h_ (HN.out.below hb)
 have HB2 := h_ (bt_ HB1.out hb)
 clear hb HV HU HM HN HB1 HC hb0 hb1
 have hb0 := HM2.out.lt
 have hb1 := HN2.out.lt
 generalize w.heap.size + 1 = h1 at *
 obtain ⟨h0, hh0⟩ : ∃ h0, h0 = w.heap.size := ⟨_, rfl⟩
 rw [← hh0] at hh hb0 HM2 ⊢
 have HH0 := h_ hh0
 clear hh0
 have m0 := HM2.out.cell 0
 have m1 := HM2.out.cell 1
 have m2 := HM2.out.cell 2
 have m3 := HM2.out.cell 3
 have m4 := HM2.out.cell 4
 have m5 := HM2.out.cell 5
 have m6 := HM2.out.cell 6
 have m7 := HM2.out.cell 7
 have m8 := HM2.out.cell 8
 have m9 := HM2.out.cell 9
 have n0 := HN2.out.cell 0
 have n1 := HN2.out.cell 1
 have n2 := HN2.out.cell 2
 have n3 := HN2.out.cell 3
 have n4 := HN2.out.cell 4
 have n5 := HN2.out.cell 5
 have n6 := HN2.out.cell 6
 have n7 := HN2.out.cell 7
 have n8 := HN2.out.cell 8
 have n9 := HN2.out.cell 9
 simp only [gz_, gs_] at m0 n0 m1 n1 m2 n2 m3 n3 m4 n4 m5 n5 m6 n6 m7 n7 m8 n8 m9 n9
 go_wp2_with fail
 go_loopw [5] (fun i wr => ∃ k : Nat, k ≤ x.cells.length ∧ i = .int .i64 k ∧ ∃ j, wr = w2.drewN j) (fun i _ => x.cells.length - (intOf i).toNat)
 case atStart => exact ⟨0, by omega, rfl, 0, rfl⟩
 case round =>
  obtain ⟨k, hk, rfl, j, rfl⟩ := hrel
  by_cases hkl : k < x.cells.length
  ·have hk0 : (0 : Int) ≤ k := by omega
   have hkn : (k : Int) < x.cells.length := by omega
   obtain ⟨z0, z1, e0, e1⟩ := cellL_at x.cells k hkl
   obtain ⟨q1, d1, hq1, HA⟩ := HV2.out.cells
   obtain ⟨q3, d3, hq3, HB⟩ := HU2.out.cells
   injection hq1 with hq1 hy1 hy2
   injection hq3 with hq3 hy3 hy4
   clear hy1 hy2 hy3 hy4
   subst hq1 hq3
   obtain ⟨g, off, u0, hp, hu0, a0⟩ := HA.at_ (j := k * 2) (by omega)
   obtain ⟨g2, off2, v0, hq, hv0, b0⟩ := HB.at_ (j := k * 2) (by omega)
   obtain rfl : u0 = v0 := by rw [hu0] at hv0; injection hv0
   obtain ⟨g', off', u1, hp', hu1, a1⟩ := HA.at_ (j := k * 2 + 1) (by omega)
   obtain ⟨g2', off2', v1, hq', hv1, b1⟩ := HB.at_ (j := k * 2 + 1) (by omega)
   obtain rfl : u1 = v1 := by rw [hu1] at hv1; injection hv1
   obtain ⟨rfl, rfl⟩ : g = g' ∧ off = off' := by rw [hp] at hp'; injection hp' with hp'; injection hp' with h1 h2; exact ⟨h1, h2⟩
   obtain ⟨rfl, rfl⟩ : g2 = g2' ∧ off2 = off2' := by rw [hq] at hq'; injection hq' with hq'; injection hq' with h1 h2; exact ⟨h1, h2⟩
   clear hp' hq'
   rw [← Nat.add_assoc] at a1 b1
   subst hp hq
   rw [e0] at hu0
   rw [e1] at hu1
   injection hu0 with hu0
   injection hu1 with hu1
   subst hu0 hu1
   clear hv0 hv1 e0 e1 HA HB
   unfold u64V at *
   go_wp2_with fail
   go_quiet (fail)
   go_wp2_with fail
   go_roundw
   case rel => exact ⟨k + 1, by omega, by go_num, _, rfl⟩
   case measure => simp [intOf] <;> omega
  ·obtain rfl : k = x.cells.length := by omega
   have HV3 := h_ (HV2.out.below (bd_ (Below.refl _ _) j))
   have HU3 := h_ (HU2.out.below (bd_ (Below.refl _ _) j))
   have HM3 := h_ (HM2.out.dn j)
   have HN3 := h_ (HN2.out.dn j)
   have HB3 := h_ (bd_ HB2.out j)
   clear HV2 HU2 HM2 HN2 HB2
   go_wp2_with fail
   generalize w2.drewN j = w3 at *
   clear m0 n0 m1 n1 m2 n2 m3 n3 m4 n4 m5 n5 m6 n6 m7 n7 m8 n8 m9 n9
   go_loopw [6] (fun i wr => ∃ k : Nat, k ≤ x.cores.length ∧ i = .int .i64 k ∧ Below w3.heap.size w3 wr) (fun i _ => x.cores.length - (intOf i).toNat)
   case atStart => exact ⟨0, by omega, rfl, Below.refl _ _⟩
   case round =>
    obtain ⟨k, hk, rfl, hb⟩ := hrel
    have HV4 := h_ (HV3.out.below hb)
    have HU4 := h_ (HU3.out.below hb)
    have HM4 := h_ (HM3.out.below hb)
    have HN4 := h_ (HN3.out.below hb)
    have HB4 := h_ hb
    have m2 := HM4.out.cell 2
    have n2 := HN4.out.cell 2
    have hb0 := HM4.out.lt
    have hb1 := HN4.out.lt
    simp only [gz_, gs_] at m2 n2
    clear hb
    by_cases hkl : k < x.cores.length
    ·have hk0 : (0 : Int) ≤ k := by omega
     have hkn : (k : Int) < x.cores.length := by omega
     obtain ⟨g, off, cv, hp, hc, ⟨pr, cr, er, Hr⟩, ⟨pc, cc, ec, Hc⟩, ⟨ph, ch, eh, Hh⟩⟩ := HV4.out.coreAt rfl hkl
     obtain ⟨g2, off2, cu, hp2, hc2, ⟨qr, dr, fr, Gr⟩, ⟨qc, dc, fc, Gc⟩, ⟨qh, dh, fh, Gh⟩⟩ := HU4.out.coreAt rfl hkl
     subst hp hp2
     have hsz := HV4.out.sizes.code _ (List.getElem_mem hkl)
     generalize x.cores[k] = co at *
     obtain ⟨c_r, c_c, c_h⟩ := cv
     obtain ⟨d_r, d_c, d_h⟩ := cu
     dsimp only at er ec eh fr fc fh
     subst er ec eh fr fc fh
     have a0 : wr.cell? ⟨g, off + k * 5, none⟩ = some (.slice pr co.regs.length cr) := by have q := hc 0 (by decide); rw [← Nat.add_assoc] at q; exact q
     have b0 : wr.cell? ⟨g2, off2 + k * 5, none⟩ = some (.slice qr co.regs.length dr) := by have q := hc2 0 (by decide); rw [← Nat.add_assoc] at q; exact q
     have a1 : wr.cell? ⟨g, off + k * 5 + 1, none⟩ = some (.int .i64 (co.space : Nat)) := by have q := hc 1 (by decide); rw [← Nat.add_assoc] at q; exact q
     have b1 : wr.cell? ⟨g2, off2 + k * 5 + 1, none⟩ = some (.int .i64 (co.space : Nat)) := by have q := hc2 1 (by decide); rw [← Nat.add_assoc] at q; exact q
     have a2 : wr.cell? ⟨g, off + k * 5 + 2, none⟩ = some (.int .u64 (co.table : Nat)) := by have q := hc 2 (by decide); rw [← Nat.add_assoc] at q; exact q
     have b2 : wr.cell? ⟨g2, off2 + k * 5 + 2, none⟩ = some (.int .u64 (co.table : Nat)) := by have q := hc2 2 (by decide); rw [← Nat.add_assoc] at q; exact q
     have a3 : wr.cell? ⟨g, off + k * 5 + 3, none⟩ = some (.slice pc co.code.length cc) := by have q := hc 3 (by decide); rw [← Nat.add_assoc] at q; exact q
     have b3 : wr.cell? ⟨g2, off2 + k * 5 + 3, none⟩ = some (.slice qc co.code.length dc) := by have q := hc2 3 (by decide); rw [← Nat.add_assoc] at q; exact q
     have a4 : wr.cell? ⟨g, off + k * 5 + 4, none⟩ = some (.slice ph co.hand.length ch) := by have q := hc 4 (by decide); rw [← Nat.add_assoc] at q; exact q
     have b4 : wr.cell? ⟨g2, off2 + k * 5 + 4, none⟩ = some (.slice qh co.hand.length dh) := by have q := hc2 4 (by decide); rw [← Nat.add_assoc] at q; exact q
     have HWR := h_ (fun (w1 : World) (hb : Below wr.heap.size wr w1) => lwords_any (c := cr) (d := dr) w1 (Hr.below hb) (Gr.below hb) (by unfold maxLen; omega))
     have HWC := h_ (fun (w1 : World) (hb : Below wr.heap.size wr w1) => lcode_any (c := cc) (d := dc) w1 (Hc.below hb) (Gc.below hb) (by unfold maxLen; omega))
     have HWH := h_ (fun (w1 : World) (hb : Below wr.heap.size wr w1) => lcode_any (c := ch) (d := dh) w1 (Hh.below hb) (Gh.below hb) (by unfold maxLen; omega))
     clear Hr Hc Hh Gr Gc Gh hc hc2 hsz
     go_wp2_with fail
     refine wp_region_held_drew (S := (fun w' => w'.cell? ⟨h0, 2, none⟩ = some (.slice (some ⟨g, off, none⟩) x.cores.length c2) ∧ w'.cell? ⟨h1, 2, none⟩ = some (.slice (some ⟨g2, off2, none⟩) x.cores.length c4) ∧ w'.cell? ⟨g, off + k * 5, none⟩ = some (.slice pr co.regs.length cr) ∧ w'.cell? ⟨g2, off2 + k * 5, none⟩ = some (.slice qr co.regs.length dr) ∧ w'.cell? ⟨g, off + k * 5 + 1, none⟩ = some (.int .i64 (co.space : Nat)) ∧ w'.cell? ⟨g2, off2 + k * 5 + 1, none⟩ = some (.int .i64 (co.space : Nat)) ∧ w'.cell? ⟨g, off + k * 5 + 2, none⟩ = some (.int .u64 (co.table : Nat)) ∧ w'.cell? ⟨g2, off2 + k * 5 + 2, none⟩ = some (.int .u64 (co.table : Nat)) ∧ w'.cell? ⟨g, off + k * 5 + 3, none⟩ = some (.slice pc co.code.length cc) ∧ w'.cell? ⟨g2, off2 + k * 5 + 3, none⟩ = some (.slice qc co.code.length dc) ∧ w'.cell? ⟨g, off + k * 5 + 4, none⟩ = some (.slice ph co.hand.length ch) ∧ w'.cell? ⟨g2, off2 + k * 5 + 4, none⟩ = some (.slice qh co.hand.length dh))) (by kernel_rfl) (by (try dsimp only); exact ⟨m2, n2, a0, b0, a1, b1, a2, b2, a3, b3, a4, b4⟩) (fun hHeld => ?_)
     refine tk1 0 72 rfl ?_
     simp only [Act.put, tka, tk0, tkS]
     refine tk1 1 73 rfl ?_
     simp only [Act.put, tka, tk0, tkS]
     refine tk1 2 74 rfl ?_
     simp only [Act.put, tka, tk0, tkS]
     refine tk1 3 75 rfl ?_
     simp only [Act.put, tka, tk0, tkS]
     refine tk1 4 76 rfl ?_
     simp only [Act.put, tka, tk0, tkS]
     refine tk1 5 77 rfl ?_
     simp only [Act.put, tka, tk0, tkS]
     refine tk1 6 78 rfl ?_
     simp only [Act.put, tka, tk0, tkS]
     refine tk1 7 79 rfl ?_
     simp only [Act.put, tka, tk0, tkS]
     refine tk1 8 80 rfl ?_
     simp only [Act.put, tka, tk0, tkS]
     refine tk1 9 81 rfl ?_
     simp only [Act.put, tka, tk0, tkS]
     refine wpAnyH_ready (rs := [10, 11]) (by kernel_rfl) (by simp) ?_
     refine AllReadyH.cons (o := ⟨some 7, _, _, _, _, _⟩) rfl (fun K hK => ?_) ?_
     ·go_simp
      refine hK.out _ _ (by (try dsimp only); exact ⟨cell_alloc m2 _, cell_alloc n2 _, cell_alloc a0 _, cell_alloc b0 _, cell_alloc a1 _, cell_alloc b1 _, cell_alloc a2 _, cell_alloc b2 _, cell_alloc a3 _, cell_alloc b3 _, cell_alloc a4 _, cell_alloc b4 _⟩) ?_
      clear hK K hHeld
      intro hHeld
      try simp only [Act.put, tka, tk0, tkS]
      refine wpAnyH_ready (rs := [11]) (by kernel_rfl) (by simp) ?_
      refine AllReadyH.cons (o := ⟨some 8, _, _, _, _, _⟩) rfl (fun K hK => ?_) AllReadyH.nil
      go_simp
      refine hK.out _ _ (by (try dsimp only); exact ⟨cell_alloc (cell_alloc m2 _) _, cell_alloc (cell_alloc n2 _) _, cell_alloc (cell_alloc a0 _) _, cell_alloc (cell_alloc b0 _) _, cell_alloc (cell_alloc a1 _) _, cell_alloc (cell_alloc b1 _) _, cell_alloc (cell_alloc a2 _) _, cell_alloc (cell_alloc b2 _) _, cell_alloc (cell_alloc a3 _) _, cell_alloc (cell_alloc b3 _) _, cell_alloc (cell_alloc a4 _) _, cell_alloc (cell_alloc b4 _) _⟩) ?_
      clear hK K hHeld
      intro hHeld
      try simp only [Act.put, tka, tk0, tkS]
      refine wpAnyH_ready (rs := [12]) (by kernel_rfl) (by simp) ?_
      refine AllReadyH.cons (o := ⟨none, _, _, _, _, _⟩) rfl (fun K hK => ?_) AllReadyH.nil
      go_simp
      refine hK.out _ _ (by (try dsimp only); exact ⟨cell_alloc (cell_alloc m2 _) _, cell_alloc (cell_alloc n2 _) _, cell_alloc (cell_alloc a0 _) _, cell_alloc (cell_alloc b0 _) _, cell_alloc (cell_alloc a1 _) _, cell_alloc (cell_alloc b1 _) _, cell_alloc (cell_alloc a2 _) _, cell_alloc (cell_alloc b2 _) _, cell_alloc (cell_alloc a3 _) _, cell_alloc (cell_alloc b3 _) _, cell_alloc (cell_alloc a4 _) _, cell_alloc (cell_alloc b4 _) _⟩) ?_
      clear hK K hHeld
      intro hHeld
      try simp only [Act.put, tka, tk0, tkS]
      refine wpAnyH_ready (rs := [13]) (by kernel_rfl) (by simp) ?_
      refine AllReadyH.cons (o := ⟨none, _, _, _, _, _⟩) rfl (fun K hK => ?_) AllReadyH.nil
      go_simp
      refine hK.out _ _ (by (try dsimp only); exact ⟨cell_alloc (cell_alloc m2 _) _, cell_alloc (cell_alloc n2 _) _, cell_alloc (cell_alloc a0 _) _, cell_alloc (cell_alloc b0 _) _, cell_alloc (cell_alloc a1 _) _, cell_alloc (cell_alloc b1 _) _, cell_alloc (cell_alloc a2 _) _, cell_alloc (cell_alloc b2 _) _, cell_alloc (cell_alloc a3 _) _, cell_alloc (cell_alloc b3 _) _, cell_alloc (cell_alloc a4 _) _, cell_alloc (cell_alloc b4 _) _⟩) ?_
      clear hK K hHeld
      intro hHeld
      try simp only [Act.put, tka, tk0, tkS]
      refine wpAnyH_done (by kernel_rfl) ?_ _
      have K1 := h_ (show Blk ((wr.alloc (.cells #[.slice pr co.regs.length cr, .int .i64 (co.space : Nat), .int .u64 (co.table : Nat), .slice pc co.code.length cc, .slice ph co.hand.length ch] 82)).alloc (.cells #[.slice qr co.regs.length dr, .int .i64 (co.space : Nat), .int .u64 (co.table : Nat), .slice qc co.code.length dc, .slice qh co.hand.length dh] 82)).drew 82 wr.heap.size [.slice pr co.regs.length cr, .int .i64 (co.space : Nat), .int .u64 (co.table : Nat), .slice pc co.code.length cc, .slice ph co.hand.length ch] from (Blk.new wr _ _).alloc _)
      have K2 := h_ (show Blk ((wr.alloc (.cells #[.slice pr co.regs.length cr, .int .i64 (co.space : Nat), .int .u64 (co.table : Nat), .slice pc co.code.length cc, .slice ph co.hand.length ch] 82)).alloc (.cells #[.slice qr co.regs.length dr, .int .i64 (co.space : Nat), .int .u64 (co.table : Nat), .slice qc co.code.length dc, .slice qh co.hand.length dh] 82)).drew 82 (wr.heap.size + 1) [.slice qr co.regs.length dr, .int .i64 (co.space : Nat), .int .u64 (co.table : Nat), .slice qc co.code.length dc, .slice qh co.hand.length dh] from blk_drew (w := (wr.alloc (.cells #[.slice pr co.regs.length cr, .int .i64 (co.space : Nat), .int .u64 (co.table : Nat), .slice pc co.code.length cc, .slice ph co.hand.length ch] 82)).alloc (.cells #[.slice qr co.regs.length dr, .int .i64 (co.space : Nat), .int .u64 (co.table : Nat), .slice qc co.code.length dc, .slice qh co.hand.length dh] 82)) (by simpa using Blk.new (wr.alloc (.cells #[.slice pr co.regs.length cr, .int .i64 (co.space : Nat), .int .u64 (co.table : Nat), .slice pc co.code.length cc, .slice ph co.hand.length ch] 82)) 82 [.slice qr co.regs.length dr, .int .i64 (co.space : Nat), .int .u64 (co.table : Nat), .slice qc co.code.length dc, .slice qh co.hand.length dh]))
      have HB7 := h_ (show Below wr.heap.size wr ((wr.alloc (.cells #[.slice pr co.regs.length cr, .int .i64 (co.space : Nat), .int .u64 (co.table : Nat), .slice pc co.code.length cc, .slice ph co.hand.length ch] 82)).alloc (.cells #[.slice qr co.regs.length dr, .int .i64 (co.space : Nat), .int .u64 (co.table : Nat), .slice qc co.code.length dc, .slice qh co.hand.length dh] 82)).drew from (bl_ (bl_ (Below.refl _ _) _) _).drew)
      have HB8 := h_ (bt_ HB4.out HB7.out)
      clear hHeld m2 n2 a0 b0 a1 b1 a2 b2 a3 b3 a4 b4
      generalize ((wr.alloc (.cells #[.slice pr co.regs.length cr, .int .i64 (co.space : Nat), .int .u64 (co.table : Nat), .slice pc co.code.length cc, .slice ph co.hand.length ch] 82)).alloc (.cells #[.slice qr co.regs.length dr, .int .i64 (co.space : Nat), .int .u64 (co.table : Nat), .slice qc co.code.length dc, .slice qh co.hand.length dh] 82)).drew = w7 at *
      generalize wr.heap.size + 1 = g7 at *
      generalize wr.heap.size = g6 at *
      have k10 := K1.out.cell 0
      have k11 := K1.out.cell 1
      have k12 := K1.out.cell 2
      have k13 := K1.out.cell 3
      have k14 := K1.out.cell 4
      have k20 := K2.out.cell 0
      have k21 := K2.out.cell 1
      have k22 := K2.out.cell 2
      have k23 := K2.out.cell 3
      have k24 := K2.out.cell 4
      simp only [gz_, gs_] at k10 k20 k11 k21 k12 k22 k13 k23 k14 k24
      have kl1 := K1.out.lt
      have kl2 := K2.out.lt
      go_wp2_with fail
      refine (HWR.out _ HB7.out).mono ?_
      rintro e w' ⟨rfl, m, rfl⟩
      go_wp2_with fail
      refine (HWC.out _ (bd_ HB7.out m)).mono ?_
      rintro e w' ⟨rfl, m', rfl⟩
      rw [World.drewN_drewN]
      go_wp2_with fail
      refine (HWH.out _ (bd_ HB7.out (m + m'))).mono ?_
      rintro e w' ⟨rfl, m2', rfl⟩
      rw [World.drewN_drewN]
      go_wp2_with fail
      go_roundw
      case rel => exact ⟨k + 1, by omega, by go_num, bd_ HB8.out _⟩
      case measure => simp [intOf] <;> omega
     refine AllReadyH.cons (o := ⟨some 8, _, _, _, _, _⟩) rfl (fun K hK => ?_) ?_
     ·go_simp
      refine hK.out _ _ (by (try dsimp only); exact ⟨cell_alloc m2 _, cell_alloc n2 _, cell_alloc a0 _, cell_alloc b0 _, cell_alloc a1 _, cell_alloc b1 _, cell_alloc a2 _, cell_alloc b2 _, cell_alloc a3 _, cell_alloc b3 _, cell_alloc a4 _, cell_alloc b4 _⟩) ?_
      clear hK K hHeld
      intro hHeld
      try simp only [Act.put, tka, tk0, tkS]
      refine wpAnyH_ready (rs := [10]) (by kernel_rfl) (by simp) ?_
      refine AllReadyH.cons (o := ⟨some 7, _, _, _, _, _⟩) rfl (fun K hK => ?_) AllReadyH.nil
      go_simp
      refine hK.out _ _ (by (try dsimp only); exact ⟨cell_alloc (cell_alloc m2 _) _, cell_alloc (cell_alloc n2 _) _, cell_alloc (cell_alloc a0 _) _, cell_alloc (cell_alloc b0 _) _, cell_alloc (cell_alloc a1 _) _, cell_alloc (cell_alloc b1 _) _, cell_alloc (cell_alloc a2 _) _, cell_alloc (cell_alloc b2 _) _, cell_alloc (cell_alloc a3 _) _, cell_alloc (cell_alloc b3 _) _, cell_alloc (cell_alloc a4 _) _, cell_alloc (cell_alloc b4 _) _⟩) ?_
      clear hK K hHeld
      intro hHeld
      try simp only [Act.put, tka, tk0, tkS]
      refine wpAnyH_ready (rs := [12]) (by kernel_rfl) (by simp) ?_
      refine AllReadyH.cons (o := ⟨none, _, _, _, _, _⟩) rfl (fun K hK => ?_) AllReadyH.nil
      go_simp
      refine hK.out _ _ (by (try dsimp only); exact ⟨cell_alloc (cell_alloc m2 _) _, cell_alloc (cell_alloc n2 _) _, cell_alloc (cell_alloc a0 _) _, cell_alloc (cell_alloc b0 _) _, cell_alloc (cell_alloc a1 _) _, cell_alloc (cell_alloc b1 _) _, cell_alloc (cell_alloc a2 _) _, cell_alloc (cell_alloc b2 _) _, cell_alloc (cell_alloc a3 _) _, cell_alloc (cell_alloc b3 _) _, cell_alloc (cell_alloc a4 _) _, cell_alloc (cell_alloc b4 _) _⟩) ?_
      clear hK K hHeld
      intro hHeld
      try simp only [Act.put, tka, tk0, tkS]
      refine wpAnyH_ready (rs := [13]) (by kernel_rfl) (by simp) ?_
      refine AllReadyH.cons (o := ⟨none, _, _, _, _, _⟩) rfl (fun K hK => ?_) AllReadyH.nil
      go_simp
      refine hK.out _ _ (by (try dsimp only); exact ⟨cell_alloc (cell_alloc m2 _) _, cell_alloc (cell_alloc n2 _) _, cell_alloc (cell_alloc a0 _) _, cell_alloc (cell_alloc b0 _) _, cell_alloc (cell_alloc a1 _) _, cell_alloc (cell_alloc b1 _) _, cell_alloc (cell_alloc a2 _) _, cell_alloc (cell_alloc b2 _) _, cell_alloc (cell_alloc a3 _) _, cell_alloc (cell_alloc b3 _) _, cell_alloc (cell_alloc a4 _) _, cell_alloc (cell_alloc b4 _) _⟩) ?_
      clear hK K hHeld
      intro hHeld
      try simp only [Act.put, tka, tk0, tkS]
      refine wpAnyH_done (by kernel_rfl) ?_ _
      have K1 := h_ (show Blk ((wr.alloc (.cells #[.slice qr co.regs.length dr, .int .i64 (co.space : Nat), .int .u64 (co.table : Nat), .slice qc co.code.length dc, .slice qh co.hand.length dh] 82)).alloc (.cells #[.slice pr co.regs.length cr, .int .i64 (co.space : Nat), .int .u64 (co.table : Nat), .slice pc co.code.length cc, .slice ph co.hand.length ch] 82)).drew 82 wr.heap.size [.slice qr co.regs.length dr, .int .i64 (co.space : Nat), .int .u64 (co.table : Nat), .slice qc co.code.length dc, .slice qh co.hand.length dh] from (Blk.new wr _ _).alloc _)
      have K2 := h_ (show Blk ((wr.alloc (.cells #[.slice qr co.regs.length dr, .int .i64 (co.space : Nat), .int .u64 (co.table : Nat), .slice qc co.code.length dc, .slice qh co.hand.length dh] 82)).alloc (.cells #[.slice pr co.regs.length cr, .int .i64 (co.space : Nat), .int .u64 (co.table : Nat), .slice pc co.code.length cc, .slice ph co.hand.length ch] 82)).drew 82 (wr.heap.size + 1) [.slice pr co.regs.length cr, .int .i64 (co.space : Nat), .int .u64 (co.table : Nat), .slice pc co.code.length cc, .slice ph co.hand.length ch] from blk_drew (w := (wr.alloc (.cells #[.slice qr co.regs.length dr, .int .i64 (co.space : Nat), .int .u64 (co.table : Nat), .slice qc co.code.length dc, .slice qh co.hand.length dh] 82)).alloc (.cells #[.slice pr co.regs.length cr, .int .i64 (co.space : Nat), .int .u64 (co.table : Nat), .slice pc co.code.length cc, .slice ph co.hand.length ch] 82)) (by simpa using Blk.new (wr.alloc (.cells #[.slice qr co.regs.length dr, .int .i64 (co.space : Nat), .int .u64 (co.table : Nat), .slice qc co.code.length dc, .slice qh co.hand.length dh] 82)) 82 [.slice pr co.regs.length cr, .int .i64 (co.space : Nat), .int .u64 (co.table : Nat), .slice pc co.code.length cc, .slice ph co.hand.length ch]))
      have HB7 := h_ (show Below wr.heap.size wr ((wr.alloc (.cells #[.slice qr co.regs.length dr, .int .i64 (co.space : Nat), .int .u64 (co.table : Nat), .slice qc co.code.length dc, .slice qh co.hand.length dh] 82)).alloc (.cells #[.slice pr co.regs.length cr, .int .i64 (co.space : Nat), .int .u64 (co.table : Nat), .slice pc co.code.length cc, .slice ph co.hand.length ch] 82)).drew from (bl_ (bl_ (Below.refl _ _) _) _).drew)
      have HB8 := h_ (bt_ HB4.out HB7.out)
      clear hHeld m2 n2 a0 b0 a1 b1 a2 b2 a3 b3 a4 b4
      generalize ((wr.alloc (.cells #[.slice qr co.regs.length dr, .int .i64 (co.space : Nat), .int .u64 (co.table : Nat), .slice qc co.code.length dc, .slice qh co.hand.length dh] 82)).alloc (.cells #[.slice pr co.regs.length cr, .int .i64 (co.space : Nat), .int .u64 (co.table : Nat), .slice pc co.code.length cc, .slice ph co.hand.length ch] 82)).drew = w7 at *
      generalize wr.heap.size + 1 = g7 at *
      generalize wr.heap.size = g6 at *
      have k10 := K1.out.cell 0
      have k11 := K1.out.cell 1
      have k12 := K1.out.cell 2
      have k13 := K1.out.cell 3
      have k14 := K1.out.cell 4
      have k20 := K2.out.cell 0
      have k21 := K2.out.cell 1
      have k22 := K2.out.cell 2
      have k23 := K2.out.cell 3
      have k24 := K2.out.cell 4
      simp only [gz_, gs_] at k10 k20 k11 k21 k12 k22 k13 k23 k14 k24
      have kl1 := K1.out.lt
      have kl2 := K2.out.lt
      go_wp2_with fail
      refine (HWR.out _ HB7.out).mono ?_
      rintro e w' ⟨rfl, m, rfl⟩
      go_wp2_with fail
      refine (HWC.out _ (bd_ HB7.out m)).mono ?_
      rintro e w' ⟨rfl, m', rfl⟩
      rw [World.drewN_drewN]
      go_wp2_with fail
      refine (HWH.out _ (bd_ HB7.out (m + m'))).mono ?_
      rintro e w' ⟨rfl, m2', rfl⟩
      rw [World.drewN_drewN]
      go_wp2_with fail
      go_roundw
      case rel => exact ⟨k + 1, by omega, by go_num, bd_ HB8.out _⟩
      case measure => simp [intOf] <;> omega
     exact AllReadyH.nil
    ·obtain rfl : k = x.cores.length := by omega
     go_wp2_with fail
     go_ret
     exact ⟨rfl, bt_ HB3.out HB4.out⟩
end
section
open Go.RowKit
def ReadPost (s : ByteArray) (w : World) (e : Ending) (w' : World) : Prop :=
 ∃ v', e = .returned (.tuple #[.agg (srcC (readA s).1 v').toArray, .agg #[.int .i64 (readA s).2.1, .int .i64 (readA s).2.2]]) ∧ (srcC (readA s).1 v').toArray.all (·.oneCell') = true ∧ GRd w' (gsrc (readA s).1) v' ∧ TestRd w' (readA s).1 v' ∧ Below w.heap.size w w'
theorem gsizes0 : GSizes (gsrc src0) := ⟨by decide, by decide, by decide, by decide, by decide, by decide, by decide, by simp [gsrc, src0], by simp [gsrc, src0], by simp [gsrc, src0], by simp [gsrc, src0], by simp [gsrc, src0], by decide⟩
theorem ReadPost.of {s : ByteArray} {w w' : World} {x : SrcA} {a b : Int} {v' : SrcV} {cs : Array Value} (hX : readA s = (x, a, b)) (hc : (srcC x v').toArray = cs) (ho : cs.all (·.oneCell') = true) (hG : GRd w' (gsrc x) v') (hT : TestRd w' x v') (hB : Below w.heap.size w w') : ReadPost s w (.returned (.tuple #[.agg cs, .agg #[.int .i64 a, .int .i64 b]])) w' := by
 unfold ReadPost; rw [hX]; exact ⟨v', by rw [hc], by rw [hc]; exact ho, hG, hT, hB⟩
theorem ReadPost.of0 {s : ByteArray} {w w' : World} {a b : Int} (hX : readA s = (src0, a, b)) (hB : Below w.heap.size w w') : ReadPost s w (.returned (.tuple #[.agg z39, .agg #[.int .i64 a, .int .i64 b]])) w' :=
 ReadPost.of hX srcC0 (all_oneCell_toArray (src_one (parts0 w' (fun _ => 0) 0))) ((parts0 w' (fun _ => 0) 0).grd gsizes0) ((parts0 w' (fun _ => 0) 0).rd ((inv0.1).mono (by decide))) hB
theorem lit_post {s : ByteArray} {w w1 : World} {e : Ending} (h : LitPostZ s w e w1) : ∃ f' v, e = .returned (.tuple #[.agg (srcC (litA s).1 v).toArray, .agg #[.int .i64 (litA s).2.1, .int .i64 (litA s).2.2]]) ∧ (srcC (litA s).1 v).toArray.all (·.oneCell') = true ∧ ((litA s).2.1 = 0 → Parts w1 f' w.heap.size (litA s).1 v ∧ Sizes (litA s).1 20000 ∧ GSizes (gsrc (litA s).1)) ∧ Below w.heap.size w w1 ∧ ∀ i, i < w.heap.size → f' i = 0 := by
 obtain ⟨f', v, rfl, hP, hs, hB, hZ⟩ := h
 exact ⟨f', v, rfl, all_oneCell_toArray (src_one hP), fun h => ⟨hP, hs, gsizes_lit h hs⟩, hB, hZ⟩
theorem Parts.below {w w' : World} {f : Nat → Nat} {B : Nat} {x : SrcA} {v : SrcV} (h : Parts w f B x v) (hb : Below w.heap.size w w') : Parts w' f B x v :=
 h.gl (L := fun _ => False) (GL.ofBelow hb) (fun _ _ => rfl) (fun _ _ _ _ h => h)
theorem Parts.set2 {w : World} {f : Nat → Nat} {B g g2 : Nat} {x : SrcA} {v : SrcV} (h : Parts w f B x v) (h0 : f g = 0) (h1 : f g2 = 0) (cs cs2 : Array Value) : Parts ((w.setRow g cs).setRow g2 cs2) f B x v :=
 h.gl (L := fun n => n = 0) (((GL.refl f _ _).setRow h0 _).setRow h1 _) (fun _ _ => rfl) (fun k i h1 h2 hn => by unfold lab at hn; omega)
theorem pread_any (s : ByteArray) (w : World) (hs : s.size ≤ maxLen) :
  Calls Tryz.prog 9 #[.string s] w (ReadPost s w) := by
 have HPA := h_ (fun (w1 : World) => (lparse_z s w1 hs).mono fun e w2 h => lit_post h)
 have HX1 := h_ (fun (h : ¬ (litA s).2.1 = 0) => show readA s = (src0, (litA s).2) from by unfold readA; rw [if_pos h])
 have HX2 := h_ (fun (h : (litA s).2.1 = 0) (h2 : ¬ (checkE (gsrc (litA s).1)).1 = 0) => show readA s = (src0, checkE (gsrc (litA s).1)) from by unfold readA; rw [if_neg (fun q => q h), if_pos h2])
 have HX3 := h_ (fun (h : (litA s).2.1 = 0) (h2 : (checkE (gsrc (litA s).1)).1 = 0) => show readA s = ((litA s).1, 0, 0) from by unfold readA; rw [if_neg (fun q => q h), if_neg (fun q => q h2)])
 have HT1 := h_ (show Blk ((w.alloc (.cells #[.string ⟨#[]⟩, .slice none 0 0, .slice none 0 0, .bool false, .int .i64 0, .int .i64 0, .int .i64 0, .int .u64 0, .int .u64 0, .slice none 0 0, .slice none 0 0, .slice none 0 0, .slice none 0 0, .slice none 0 0, .slice none 0 0, .int .i64 0] 38)).alloc (.cells #[.int .i64 0, .int .i64 0] 41)) 38 w.heap.size [.string ⟨#[]⟩, .slice none 0 0, .slice none 0 0, .bool false, .int .i64 0, .int .i64 0, .int .i64 0, .int .u64 0, .int .u64 0, .slice none 0 0, .slice none 0 0, .slice none 0 0, .slice none 0 0, .slice none 0 0, .slice none 0 0, .int .i64 0] from (Blk.new w _ _).alloc _)
 have HP1 := h_ (show Blk ((w.alloc (.cells #[.string ⟨#[]⟩, .slice none 0 0, .slice none 0 0, .bool false, .int .i64 0, .int .i64 0, .int .i64 0, .int .u64 0, .int .u64 0, .slice none 0 0, .slice none 0 0, .slice none 0 0, .slice none 0 0, .slice none 0 0, .slice none 0 0, .int .i64 0] 38)).alloc (.cells #[.int .i64 0, .int .i64 0] 41)) 41 (w.heap.size + 1) [.int .i64 0, .int .i64 0] from by simpa using Blk.new (w.alloc (.cells #[.string ⟨#[]⟩, .slice none 0 0, .slice none 0 0, .bool false, .int .i64 0, .int .i64 0, .int .i64 0, .int .u64 0, .int .u64 0, .slice none 0 0, .slice none 0 0, .slice none 0 0, .slice none 0 0, .slice none 0 0, .slice none 0 0, .int .i64 0] 38)) 41 [.int .i64 0, .int .i64 0])
 have HB1 := h_ (show Below w.heap.size w ((w.alloc (.cells #[.string ⟨#[]⟩, .slice none 0 0, .slice none 0 0, .bool false, .int .i64 0, .int .i64 0, .int .i64 0, .int .u64 0, .int .u64 0, .slice none 0 0, .slice none 0 0, .slice none 0 0, .slice none 0 0, .slice none 0 0, .slice none 0 0, .int .i64 0] 38)).alloc (.cells #[.int .i64 0, .int .i64 0] 41)) from bl_ (bl_ (Below.refl _ _) _) _)
 have hz1 : w.heap.size + 1 < ((w.alloc (.cells #[.string ⟨#[]⟩, .slice none 0 0, .slice none 0 0, .bool false, .int .i64 0, .int .i64 0, .int .i64 0, .int .u64 0, .int .u64 0, .slice none 0 0, .slice none 0 0, .slice none 0 0, .slice none 0 0, .slice none 0 0, .slice none 0 0, .int .i64 0] 38)).alloc (.cells #[.int .i64 0, .int .i64 0] 41)).heap.size := by simp
 go_enter Tryz.func9, Tryz.ntmps9
 go_wp2_with fail
 generalize (w.alloc (.cells #[.string ⟨#[]⟩, .slice none 0 0, .slice none 0 0, .bool false, .int .i64 0, .int .i64 0, .int .i64 0, .int .u64 0, .int .u64 0, .slice none 0 0, .slice none 0 0, .slice none 0 0, .slice none 0 0, .slice none 0 0, .slice none 0 0, .int .i64 0] 38)).alloc (.cells #[.int .i64 0, .int .i64 0] 41) = w1 at *
 refine (HPA.out _).mono ?_
 rintro e w2 ⟨f', v, rfl, hone, hG, hb, hZ⟩
 have HZ := h_ hZ
 clear hZ
 generalize litA s = y at *
 obtain ⟨x, ca, cb⟩ := y
 dsimp only at HX1 HX2 HX3 hone hG
 have HON := h_ hone
 have hz2 := hb.size
 have HT2 := h_ (HT1.out.below hb)
 have HP2 := h_ (HP1.out.below hb)
 have HB2 := h_ (bt_ HB1.out (hb.mono (by omega)))
 clear hb HT1 HP1 HB1 HPA hone
 obtain ⟨S1, S2, S3⟩ := stored2 w2 (.cells #[.string ⟨#[]⟩, .slice none 0 0, .slice none 0 0, .bool false, .int .i64 0, .int .i64 0, .int .i64 0, .int .u64 0, .int .u64 0, .slice none 0 0, .slice none 0 0, .slice none 0 0, .slice none 0 0, .slice none 0 0, .slice none 0 0, .int .i64 0] 38) (.cells #[.int .i64 0, .int .i64 0] 41) 38 41 _ _ (srcC x v).toArray #[.int .i64 ca, .int .i64 cb] rfl rfl
 have p0 := S2.cell 0
 have p1 := S2.cell 1
 have l1 := S1.lt
 have l2 := S2.lt
 have hi39 := h_ (show (Tryz.prog.info? 38).map (·.size) = some (srcC x v).toArray.size by kernel_rfl)
 have hsz := h_ (show (srcC x v).toArray.size = 16 from rfl)
 simp only [gz_, gs_] at p0 p1
 have HT3 := h_ (HT2.out.below S3)
 have HP3 := h_ (HP2.out.below S3)
 have HB3 := h_ (bt_ HB2.out (S3.mono (by omega)))
 by_cases hc : ca = 0
 ·subst hc
  have HG := h_ ((hG rfl).1.below S3)
  have HSI := h_ (hG rfl).2
  obtain ⟨d0, d1, d2, d3, d4, d5, d6, d7, d8, d9, d10, d11, d12, d13, d14, d15⟩ := src16 S1
  have HS1 := h_ S1
  clear hG S1 S2 S3 HX1 HT2 HP2 HB2
  have HY2 := h_ (HX2.out (by trivial))
  have HY3 := h_ (HX3.out (by trivial))
  clear HX2 HX3
  go_wp2_with (first | (refine wpList_store_row rfl 38 (.tmp 4) (.tmp 10) rfl w2.heap.size (srcC x v).toArray rfl rfl 38 _ (heap_alloc2_old w2 _ _) hi39.out (by rw [hsz.out]; rfl) HON.out ?_) | (refine wpList_store_row rfl 41 (.tmp 5) (.tmp 11) rfl (w2.heap.size + 1) #[.int .i64 (0), .int .i64 (cb)] rfl rfl 41 _ ((setRow_other _ _ _ _ (by omega)).trans (heap_alloc2_new w2 _ _)) (by kernel_rfl) rfl (by kernel_rfl) ?_; generalize ((((w2.alloc (.cells #[.string ⟨#[]⟩, .slice none 0 0, .slice none 0 0, .bool false, .int .i64 0, .int .i64 0, .int .i64 0, .int .u64 0, .int .u64 0, .slice none 0 0, .slice none 0 0, .slice none 0 0, .slice none 0 0, .slice none 0 0, .slice none 0 0, .int .i64 0] 38)).alloc (.cells #[.int .i64 0, .int .i64 0] 41)).setRow w2.heap.size (srcC x v).toArray).setRow (w2.heap.size + 1) #[.int .i64 (0), .int .i64 (cb)]) = w3 at *))
  have HC := h_ (pcheck_any w3 (HG.out.grd HSI.out.2))
  rw [gsrcC_gsrc] at HC
  have HC := h_ (show Calls Tryz.prog 15 #[.agg [.string x.name, v.vC, v.vCo, .bool x.fa, v.k0, v.k1, v.k2, v.k3, v.k4, v.k5, v.vT, v.vPT, v.vPC, v.vPCo, v.vPI, .int .i64 x.pCond].toArray] w3 (fun e w' => e = .returned (.agg #[.int .i64 (checkE (gsrc x)).1, .int .i64 (checkE (gsrc x)).2]) ∧ Below w3.heap.size w3 w') from HC.out)
  dsimp only [List.toArray] at HC
  refine HC.out.mono ?_
  rintro e w4 ⟨rfl, hb⟩
  have hz4 := hb.size
  have hz3 : w2.heap.size + 1 < w3.heap.size := l2
  have HT4 := h_ (HT3.out.below hb)
  have HP4 := h_ (HP3.out.below hb)
  have HB4 := h_ (bt_ HB3.out (hb.mono (by omega)))
  have HG4 := h_ (HG.out.below hb)
  have HS4 := h_ (HS1.out.below hb)
  clear hb d0 d1 d2 d3 d4 d5 d6 d7 d8 d9 d10 d11 d12 d13 d14 d15 HT3 HP3 HB3 HG HC p0 p1 l1 l2
  generalize checkE (gsrc x) = A at *
  obtain ⟨da, db⟩ := A
  dsimp only at HY2 HY3 ⊢
  by_cases hd : da = 0
  ·subst hd
   have HX := h_ (HY3.out (by trivial))
   clear HY2 HY3
   have q0 := (Blk.new w4 41 [.int .i64 0, .int .i64 db]).cell 0
   have q4 := (Blk.new w4 41 [.int .i64 0, .int .i64 db]).lt
   have HBa := h_ (show Below w4.heap.size w4 (w4.alloc (.cells #[.int .i64 0, .int .i64 db] 41)) from bl_ (Below.refl _ _) _)
   have HT5 := h_ (HT4.out.below HBa.out)
   have HP5 := h_ (HP4.out.below HBa.out)
   have HB5 := h_ (bt_ HB4.out (HBa.out.mono (by omega)))
   have HG5 := h_ (HG4.out.below HBa.out)
   obtain ⟨e0, e1, e2, e3, e4, e5, e6, e7, e8, e9, e10, e11, e12, e13, e14, e15⟩ := src16 (HS4.out.alloc (.cells #[.int .i64 0, .int .i64 db] 41))
   simp only [gz_] at q0
   dsimp only [List.toArray] at q0 q4
   have l1 : w2.heap.size < (w4.alloc (.cells #[.int .i64 0, .int .i64 db] 41)).heap.size := by have := HBa.out.size; omega
   go_wp2_with (first | (refine wpList_store_row rfl 38 (.tmp 2) (.tmp 24) rfl w.heap.size (srcC x v).toArray rfl rfl 38 _ HT5.out hi39.out (by rw [hsz.out]; rfl) HON.out ?_) | (refine wpList_store_row rfl 41 (.tmp 3) (.tmp 25) rfl (w.heap.size + 1) #[.int .i64 0, .int .i64 0] rfl rfl 41 _ ((setRow_other _ _ _ _ (by omega)).trans HP5.out) (by kernel_rfl) rfl (by kernel_rfl) ?_))
   refine bodyPost_ret (results_c2 rfl _ _ (w.heap.size) (w.heap.size + 1) 38 41 (srcC x v).toArray #[.int .i64 (0), .int .i64 (0)] (0, 0) (0, 0) _ _ rfl ?q1 rfl ?q2 Tryz.underlying38 rfl (by kernel_rfl) Tryz.underlying41 rfl (by kernel_rfl)) rfl ?_
   case q1 => exact (setRow_other _ _ _ _ (by omega)).trans (setRow_heap _ _ _ _ _ _ HT5.out)
   case q2 => exact setRow_heap _ _ _ _ _ _ ((setRow_other _ _ _ _ (by omega)).trans HP5.out)
   have HP9 := HG5.out.set2 (HZ.out w.heap.size (by omega)) (HZ.out (w.heap.size + 1) (by omega)) (srcC x v).toArray #[.int .i64 0, .int .i64 0]
   exact ReadPost.of HX.out rfl HON.out (HP9.grd HSI.out.2) (HP9.rd HSI.out.1) (belowSetRow (belowSetRow HB5.out (Nat.le_refl _) _) (by omega) _)
  ·have ndb : (da == 0) = false := beq_eq_false_iff_ne.2 hd
   have HX := h_ (HY2.out hd)
   clear hd HY2 HY3 HG4 HS4
   have m0 : (w4.alloc (.cells #[.int .i64 da, .int .i64 db] 41)).cell? ⟨w4.heap.size, 0, none⟩ = some (.int .i64 da) := (Blk.new w4 41 [.int .i64 da, .int .i64 db]).cell 0
   have m1 : (w4.alloc (.cells #[.int .i64 da, .int .i64 db] 41)).cell? ⟨w4.heap.size, 1, none⟩ = some (.int .i64 db) := (Blk.new w4 41 [.int .i64 da, .int .i64 db]).cell 1
   have l4 : w4.heap.size < (w4.alloc (.cells #[.int .i64 da, .int .i64 db] 41)).heap.size := (Blk.new w4 41 [.int .i64 da, .int .i64 db]).lt
   have HT := h_ (show Blk (w4.alloc (.cells #[.int .i64 da, .int .i64 db] 41)).drew _ _ _ from HT4.out.alloc _)
   have HP := h_ (show Blk (w4.alloc (.cells #[.int .i64 da, .int .i64 db] 41)).drew _ _ _ from HP4.out.alloc _)
   have HBq := h_ (show Below w.heap.size w (w4.alloc (.cells #[.int .i64 da, .int .i64 db] 41)).drew from (bl_ HB4.out _).drew)
   have hn0 : w4.heap.size ≠ w.heap.size := by omega
   have hn1 : w4.heap.size ≠ w.heap.size + 1 := by omega
   have hn2 : w.heap.size + 1 ≠ w.heap.size := by omega
   go_wp2_with fail
   clear l4
   generalize w4.heap.size = h2 at *
   generalize w4.alloc (.cells #[.int .i64 da, .int .i64 db] 41) = w5 at *
   refine wp_region_held_drew (S := (fun w' => w'.cell? ⟨h2, 0, none⟩ = some (.int .i64 (da)) ∧ w'.cell? ⟨h2, 1, none⟩ = some (.int .i64 (db)))) (by kernel_rfl) (by (try dsimp only); exact ⟨m0, m1⟩) (fun hHeld => ?_)
   refine tk1 0 22 rfl ?_
   simp only [Act.put, tka, tk0, tkS]
   refine tk1 1 23 rfl ?_
   simp only [Act.put, tka, tk0, tkS]
   refine wpAnyH_ready (rs := [2]) (by kernel_rfl) (by simp) ?_
   refine AllReadyH.cons (o := ⟨none, _, _, _, _, _⟩) rfl (fun K hK => ?_) AllReadyH.nil
   rw [if_pos (by rfl)]
   refine wp_store_row 38 (.tmp 2) (.tmp 22) rfl w.heap.size z39 rfl rfl 38 _ HT.out (by kernel_rfl) rfl (by kernel_rfl) ?_
   refine hK.out _ _ (by (try dsimp only); exact ⟨by rw [cell_setRow_other _ _ _ _ hn0]; exact m0, by rw [cell_setRow_other _ _ _ _ hn0]; exact m1⟩) ?_
   clear hK K hHeld
   intro hHeld
   try simp only [Act.put, tka, tk0, tkS]
   refine wpAnyH_ready (rs := [3]) (by kernel_rfl) (by simp) ?_
   refine AllReadyH.cons (o := ⟨none, _, _, _, _, _⟩) rfl (fun K hK => ?_) AllReadyH.nil
   rw [if_pos (by rfl)]
   refine wp_store_row 41 (.tmp 3) (.tmp 23) rfl (w.heap.size + 1) #[.int .i64 (da), .int .i64 (db)] rfl rfl 41 _ ((setRow_other _ _ _ _ hn2).trans HP.out) (by kernel_rfl) rfl (by kernel_rfl) ?_
   refine hK.out _ _ (by (try dsimp only); exact ⟨by rw [cell_setRow_other _ _ _ _ hn1, cell_setRow_other _ _ _ _ hn0]; exact m0, by rw [cell_setRow_other _ _ _ _ hn1, cell_setRow_other _ _ _ _ hn0]; exact m1⟩) ?_
   clear hK K hHeld
   intro hHeld
   try simp only [Act.put, tka, tk0, tkS]
   refine wpAnyH_done (by kernel_rfl) ?_ _
   go_wp2
   refine bodyPost_ret (results_c2 rfl _ _ (w.heap.size) (w.heap.size + 1) 38 41 z39 #[.int .i64 (da), .int .i64 (db)] (0, 0) (0, 0) _ _ rfl ?q1 rfl ?q2 Tryz.underlying38 rfl (by kernel_rfl) Tryz.underlying41 rfl (by kernel_rfl)) rfl ?_
   case q1 => exact (setRow_other _ _ _ _ (by omega)).trans (setRow_heap _ _ _ _ _ _ HT.out)
   case q2 => exact setRow_heap _ _ _ _ _ _ ((setRow_other _ _ _ _ (by omega)).trans HP.out)
   exact ReadPost.of0 HX.out (belowSetRow (belowSetRow HBq.out (Nat.le_refl _) _) (by omega) _)
 ·have hcb : (ca != 0) = true := bne_iff_ne.2 hc
  have HX := h_ (HX1.out hc)
  clear hc hG S1 S2 S3 HX1 HX2 HX3 HT2 HP2 HB2
  go_wp2_with (first | (refine wpList_store_row rfl 38 (.tmp 4) (.tmp 10) rfl w2.heap.size (srcC x v).toArray rfl rfl 38 _ (heap_alloc2_old w2 _ _) hi39.out (by rw [hsz.out]; rfl) HON.out ?_) | (refine wpList_store_row rfl 41 (.tmp 5) (.tmp 11) rfl (w2.heap.size + 1) #[.int .i64 (ca), .int .i64 (cb)] rfl rfl 41 _ ((setRow_other _ _ _ _ (by omega)).trans (heap_alloc2_new w2 _ _)) (by kernel_rfl) rfl (by kernel_rfl) ?_; generalize ((((w2.alloc (.cells #[.string ⟨#[]⟩, .slice none 0 0, .slice none 0 0, .bool false, .int .i64 0, .int .i64 0, .int .i64 0, .int .u64 0, .int .u64 0, .slice none 0 0, .slice none 0 0, .slice none 0 0, .slice none 0 0, .slice none 0 0, .slice none 0 0, .int .i64 0] 38)).alloc (.cells #[.int .i64 0, .int .i64 0] 41)).setRow w2.heap.size (srcC x v).toArray).setRow (w2.heap.size + 1) #[.int .i64 (ca), .int .i64 (cb)]) = w3 at *))
  have hn0 : w2.heap.size + 1 ≠ w.heap.size := by omega
  have hn1 : w2.heap.size + 1 ≠ w.heap.size + 1 := by omega
  have hn2 : w.heap.size + 1 ≠ w.heap.size := by omega
  have HT := h_ (show Blk w3.drew _ _ _ from HT3.out)
  have HP := h_ (show Blk w3.drew _ _ _ from HP3.out)
  have HBq := h_ (show Below w.heap.size w w3.drew from HB3.out.drew)
  have m0 := p0
  have m1 := p1
  clear p0 p1
  generalize w2.heap.size + 1 = h2 at *
  refine wp_region_held_drew (S := (fun w' => w'.cell? ⟨h2, 0, none⟩ = some (.int .i64 (ca)) ∧ w'.cell? ⟨h2, 1, none⟩ = some (.int .i64 (cb)))) (by kernel_rfl) (by (try dsimp only); exact ⟨m0, m1⟩) (fun hHeld => ?_)
  refine tk1 0 15 rfl ?_
  simp only [Act.put, tka, tk0, tkS]
  refine tk1 1 16 rfl ?_
  simp only [Act.put, tka, tk0, tkS]
  refine wpAnyH_ready (rs := [2]) (by kernel_rfl) (by simp) ?_
  refine AllReadyH.cons (o := ⟨none, _, _, _, _, _⟩) rfl (fun K hK => ?_) AllReadyH.nil
  rw [if_pos (by rfl)]
  refine wp_store_row 38 (.tmp 2) (.tmp 15) rfl w.heap.size z39 rfl rfl 38 _ HT.out (by kernel_rfl) rfl (by kernel_rfl) ?_
  refine hK.out _ _ (by (try dsimp only); exact ⟨by rw [cell_setRow_other _ _ _ _ hn0]; exact m0, by rw [cell_setRow_other _ _ _ _ hn0]; exact m1⟩) ?_
  clear hK K hHeld
  intro hHeld
  try simp only [Act.put, tka, tk0, tkS]
  refine wpAnyH_ready (rs := [3]) (by kernel_rfl) (by simp) ?_
  refine AllReadyH.cons (o := ⟨none, _, _, _, _, _⟩) rfl (fun K hK => ?_) AllReadyH.nil
  rw [if_pos (by rfl)]
  refine wp_store_row 41 (.tmp 3) (.tmp 16) rfl (w.heap.size + 1) #[.int .i64 (ca), .int .i64 (cb)] rfl rfl 41 _ ((setRow_other _ _ _ _ hn2).trans HP.out) (by kernel_rfl) rfl (by kernel_rfl) ?_
  refine hK.out _ _ (by (try dsimp only); exact ⟨by rw [cell_setRow_other _ _ _ _ hn1, cell_setRow_other _ _ _ _ hn0]; exact m0, by rw [cell_setRow_other _ _ _ _ hn1, cell_setRow_other _ _ _ _ hn0]; exact m1⟩) ?_
  clear hK K hHeld
  intro hHeld
  try simp only [Act.put, tka, tk0, tkS]
  refine wpAnyH_done (by kernel_rfl) ?_ _
  go_wp2
  refine bodyPost_ret (results_c2 rfl _ _ (w.heap.size) (w.heap.size + 1) 38 41 z39 #[.int .i64 (ca), .int .i64 (cb)] (0, 0) (0, 0) _ _ rfl ?q1 rfl ?q2 Tryz.underlying38 rfl (by kernel_rfl) Tryz.underlying41 rfl (by kernel_rfl)) rfl ?_
  case q1 => exact (setRow_other _ _ _ _ (by omega)).trans (setRow_heap _ _ _ _ _ _ HT.out)
  case q2 => exact setRow_heap _ _ _ _ _ _ ((setRow_other _ _ _ _ (by omega)).trans HP.out)
  exact ReadPost.of0 HX.out (belowSetRow (belowSetRow HBq.out (Nat.le_refl _) _) (by omega) _)
end
end Go.Proofs.YtmnojnopejhebaaGreat
