/- granuleref12.Same and Tables, at tests that are alike. -/
import Derived.Test.YtcaifejfkpmeeaaGreatMgas
import Derived.Test.YtcaifejfkpmeeaaGreatMgbi
import Derived.Deep.RegionHeld
namespace Go.Proofs.YtcaifejfkpmeeaaGreat
open Go.RowKit
set_option linter.unusedVariables false
set_option linter.unusedSimpArgs false

theorem insL_len : ∀ (l : List Ins), (insL l).length = l.length * 6
  | [] => rfl
  | x :: l => by
    show (instrL x.op x.d x.n x.m x.imm x.kind ++ insL l).length = _
    rw [List.length_append, insL_len l]; simp [instrL]; omega
theorem insL_at : ∀ (l : List Ins) (k : Nat), k < l.length → ∃ z0 z1 z2 z3 z4 z5 : Int, (insL l)[k * 6]? = some (.int .i64 z0) ∧ (insL l)[k * 6 + 1]? = some (.int .i64 z1) ∧ (insL l)[k * 6 + 2]? = some (.int .i64 z2) ∧ (insL l)[k * 6 + 3]? = some (.int .i64 z3) ∧ (insL l)[k * 6 + 4]? = some (.int .i64 z4) ∧ (insL l)[k * 6 + 5]? = some (.int .i64 z5)
  | x :: l, 0, _ => ⟨x.op, x.d, x.n, x.m, x.imm, x.kind, rfl, rfl, rfl, rfl, rfl, rfl⟩
  | x :: l, k + 1, h => by
    have q := insL_at l k (by simpa using h)
    have e : insL (x :: l) = instrL x.op x.d x.n x.m x.imm x.kind ++ insL l := rfl
    rw [e, show (k + 1) * 6 = k * 6 + 6 by omega]
    exact q
theorem cellL_at : ∀ (l : List (Nat × Nat)) (k : Nat), k < l.length → ∃ z0 z1 : Nat, (cellL l)[k * 2]? = some (u64V z0) ∧ (cellL l)[k * 2 + 1]? = some (u64V z1)
  | x :: l, 0, _ => ⟨x.1, x.2, rfl, rfl⟩
  | x :: l, k + 1, h => by
    have q := cellL_at l k (by simpa using h)
    have e : cellL (x :: l) = [u64V x.1, u64V x.2] ++ cellL l := rfl
    rw [e, show (k + 1) * 2 = k * 2 + 2 by omega]
    exact q
set_option maxRecDepth 100000 in
set_option maxHeartbeats 3200000 in
theorem lwords_any (w : World) {p q : Option Addr} {n c d : Nat} {l : List Nat} (hA : Rds w 1 p n (l.map u64V)) (hB : Rds w 1 q n (l.map u64V)) (hn : n ≤ maxLen) :
    Calls Tryz.prog 15 #[.slice p n c, .slice q n d] w fun e w' => e = .returned (.bool true) ∧ ∃ m, w' = w.drewN m := by
  have HA := Lib.hid hA
  have HB := Lib.hid hB
  have HN := Lib.hid hn
  unfold maxLen at HN
  clear hA hB hn
  go_enter Tryz.func15, Tryz.ntmps15
  go_wp2_with fail
  go_loopw [5] (fun i wr => ∃ k : Nat, k ≤ n ∧ i = .int .i64 k ∧ ∃ j, wr = w.drewN j) (fun i _ => n - (intOf i).toNat)
  case atStart => exact ⟨0, by omega, rfl, 0, rfl⟩
  case round =>
    obtain ⟨k, hk, rfl, j, rfl⟩ := hrel
    by_cases hkl : k < n
    · have hk0 : (0 : Int) ≤ k := by omega
      have hkn : (k : Int) < n := by omega
      have HN2 := HN.out
      obtain ⟨g, off, u, rfl, hu, hc⟩ := HA.out.at_ (j := k) (by omega)
      obtain ⟨g2, off2, u2, rfl, hu2, hc2⟩ := HB.out.at_ (j := k) (by omega)
      obtain rfl : u = u2 := by rw [hu] at hu2; injection hu2
      obtain ⟨x, rfl⟩ : ∃ x : Int, u = .int .u64 x := by
        simp only [List.getElem?_map] at hu
        cases hh : l[k]? with
        | none => rw [hh] at hu; cases hu
        | some q => rw [hh] at hu; injection hu with hu; exact ⟨_, hu.symm⟩
      clear hu hu2
      go_wp2_with fail
      go_quiet (fail)
      go_wp2_with fail
      go_roundw
      case rel => exact ⟨k + 1, by omega, by go_num, _, rfl⟩
      case measure => simp [intOf] <;> omega
    · obtain rfl : k = n := by omega
      go_wp2_with fail
      go_ret
      exact ⟨rfl, _, rfl⟩
set_option maxRecDepth 100000 in
set_option maxHeartbeats 3200000 in
theorem lcode_any (w : World) {p q : Option Addr} {n c d : Nat} {l : List Ins} (hA : Rds w 6 p n (insL l)) (hB : Rds w 6 q n (insL l)) (hn : n ≤ maxLen) :
    Calls Tryz.prog 16 #[.slice p n c, .slice q n d] w fun e w' => e = .returned (.bool true) ∧ ∃ m, w' = w.drewN m := by
  have HA := Lib.hid hA
  have HB := Lib.hid hB
  have HN := Lib.hid hn
  unfold maxLen at HN
  clear hA hB hn
  go_enter Tryz.func16, Tryz.ntmps16
  go_wp2_with fail
  go_loopw [5] (fun i wr => ∃ k : Nat, k ≤ n ∧ i = .int .i64 k ∧ ∃ j, wr = w.drewN j) (fun i _ => n - (intOf i).toNat)
  case atStart => exact ⟨0, by omega, rfl, 0, rfl⟩
  case round =>
    obtain ⟨k, hk, rfl, j, rfl⟩ := hrel
    by_cases hkl : k < n
    · have hk0 : (0 : Int) ≤ k := by omega
      have hkn : (k : Int) < n := by omega
      have HN2 := HN.out
      have HL := Lib.hid (show k < l.length by have := HA.out.1; rw [insL_len] at this; omega)
      obtain ⟨g, off, u0, hp, hu0, a0⟩ := HA.out.at_ (j := k * 6) (by omega)
      obtain ⟨g2, off2, v0, hq, hv0, b0⟩ := HB.out.at_ (j := k * 6) (by omega)
      obtain rfl : u0 = v0 := by rw [hu0] at hv0; injection hv0
      obtain ⟨g', off', u1, hp', hu1, a1⟩ := HA.out.at_ (j := k * 6 + 1) (by omega)
      obtain ⟨rfl, rfl⟩ : g = g' ∧ off = off' := by rw [hp] at hp'; injection hp' with hp'; injection hp' with h1 h2; exact ⟨h1, h2⟩
      obtain ⟨g2', off2', v1, hq', hv1, b1⟩ := HB.out.at_ (j := k * 6 + 1) (by omega)
      obtain ⟨rfl, rfl⟩ : g2 = g2' ∧ off2 = off2' := by rw [hq] at hq'; injection hq' with hq'; injection hq' with h1 h2; exact ⟨h1, h2⟩
      obtain rfl : u1 = v1 := by rw [hu1] at hv1; injection hv1
      clear hp' hq'
      rw [← Nat.add_assoc] at a1 b1
      obtain ⟨g', off', u2, hp', hu2, a2⟩ := HA.out.at_ (j := k * 6 + 2) (by omega)
      obtain ⟨rfl, rfl⟩ : g = g' ∧ off = off' := by rw [hp] at hp'; injection hp' with hp'; injection hp' with h1 h2; exact ⟨h1, h2⟩
      obtain ⟨g2', off2', v2, hq', hv2, b2⟩ := HB.out.at_ (j := k * 6 + 2) (by omega)
      obtain ⟨rfl, rfl⟩ : g2 = g2' ∧ off2 = off2' := by rw [hq] at hq'; injection hq' with hq'; injection hq' with h1 h2; exact ⟨h1, h2⟩
      obtain rfl : u2 = v2 := by rw [hu2] at hv2; injection hv2
      clear hp' hq'
      rw [← Nat.add_assoc] at a2 b2
      obtain ⟨g', off', u3, hp', hu3, a3⟩ := HA.out.at_ (j := k * 6 + 3) (by omega)
      obtain ⟨rfl, rfl⟩ : g = g' ∧ off = off' := by rw [hp] at hp'; injection hp' with hp'; injection hp' with h1 h2; exact ⟨h1, h2⟩
      obtain ⟨g2', off2', v3, hq', hv3, b3⟩ := HB.out.at_ (j := k * 6 + 3) (by omega)
      obtain ⟨rfl, rfl⟩ : g2 = g2' ∧ off2 = off2' := by rw [hq] at hq'; injection hq' with hq'; injection hq' with h1 h2; exact ⟨h1, h2⟩
      obtain rfl : u3 = v3 := by rw [hu3] at hv3; injection hv3
      clear hp' hq'
      rw [← Nat.add_assoc] at a3 b3
      obtain ⟨g', off', u4, hp', hu4, a4⟩ := HA.out.at_ (j := k * 6 + 4) (by omega)
      obtain ⟨rfl, rfl⟩ : g = g' ∧ off = off' := by rw [hp] at hp'; injection hp' with hp'; injection hp' with h1 h2; exact ⟨h1, h2⟩
      obtain ⟨g2', off2', v4, hq', hv4, b4⟩ := HB.out.at_ (j := k * 6 + 4) (by omega)
      obtain ⟨rfl, rfl⟩ : g2 = g2' ∧ off2 = off2' := by rw [hq] at hq'; injection hq' with hq'; injection hq' with h1 h2; exact ⟨h1, h2⟩
      obtain rfl : u4 = v4 := by rw [hu4] at hv4; injection hv4
      clear hp' hq'
      rw [← Nat.add_assoc] at a4 b4
      obtain ⟨g', off', u5, hp', hu5, a5⟩ := HA.out.at_ (j := k * 6 + 5) (by omega)
      obtain ⟨rfl, rfl⟩ : g = g' ∧ off = off' := by rw [hp] at hp'; injection hp' with hp'; injection hp' with h1 h2; exact ⟨h1, h2⟩
      obtain ⟨g2', off2', v5, hq', hv5, b5⟩ := HB.out.at_ (j := k * 6 + 5) (by omega)
      obtain ⟨rfl, rfl⟩ : g2 = g2' ∧ off2 = off2' := by rw [hq] at hq'; injection hq' with hq'; injection hq' with h1 h2; exact ⟨h1, h2⟩
      obtain rfl : u5 = v5 := by rw [hu5] at hv5; injection hv5
      clear hp' hq'
      rw [← Nat.add_assoc] at a5 b5
      subst hp hq
      obtain ⟨z0, z1, z2, z3, z4, z5, e0, e1, e2, e3, e4, e5⟩ := insL_at l k HL.out
      rw [e0] at hu0; injection hu0 with hu0; subst hu0
      rw [e1] at hu1; injection hu1 with hu1; subst hu1
      rw [e2] at hu2; injection hu2 with hu2; subst hu2
      rw [e3] at hu3; injection hu3 with hu3; subst hu3
      rw [e4] at hu4; injection hu4 with hu4; subst hu4
      rw [e5] at hu5; injection hu5 with hu5; subst hu5
      clear hv0 e0 hv1 e1 hv2 e2 hv3 e3 hv4 e4 hv5 e5
      go_wp2_with fail
      go_quiet (fail)
      go_wp2_with fail
      go_roundw
      case rel => exact ⟨k + 1, by omega, by go_num, _, rfl⟩
      case measure => simp [intOf] <;> omega
    · obtain rfl : k = n := by omega
      go_wp2_with fail
      go_ret
      exact ⟨rfl, _, rfl⟩
set_option maxRecDepth 100000 in
set_option maxHeartbeats 3200000 in
theorem ltables_any (w : World) {p q : Option Addr} {n c d : Nat} {l : List Nat} (hA : Rds w 1 p n (l.map u64V)) (hB : Rds w 1 q n (l.map u64V)) (hn : n ≤ maxLen) :
    Calls Tryz.prog 9 #[.slice p n c, .slice q n d] w fun e w' => e = .returned (.bool true) ∧ ∃ m, w' = w.drewN m := by
  have HW := Lib.hid (lwords_any (c := c) (d := d) w hA hB hn)
  clear hA hB hn
  go_enter Tryz.func9, Tryz.ntmps9
  go_wp2_with fail
  refine (HW.out).mono ?_
  rintro e w2 ⟨rfl, m, rfl⟩
  go_wp2_with fail
  go_ret
  exact ⟨rfl, _, rfl⟩
/-- A test that can be read. -/
structure TestRd (w : World) (x : SrcA) (v : SrcV) : Prop where
  cells : ∃ p c, v.vC = .slice p x.cells.length c ∧ Rds w 2 p x.cells.length (cellL x.cells)
  cores : ∃ p c, v.vCo = .slice p x.cores.length c ∧ Rds w 5 p x.cores.length (coresC v.cvs x.cores)
  lenc : v.cvs.length = x.cores.length
  core : ∀ (i : Nat) (h : i < x.cores.length) (h' : i < v.cvs.length), (∃ p c, v.cvs[i].r = .slice p x.cores[i].regs.length c ∧ Rds w 1 p x.cores[i].regs.length (x.cores[i].regs.map u64V)) ∧ (∃ p c, v.cvs[i].c = .slice p x.cores[i].code.length c ∧ Rds w 6 p x.cores[i].code.length (insL x.cores[i].code)) ∧ (∃ p c, v.cvs[i].h = .slice p x.cores[i].hand.length c ∧ Rds w 6 p x.cores[i].hand.length (insL x.cores[i].hand))
  cond : ∃ S, CT.At w S x.cond (condC v)
  sizes : Sizes x 20000
theorem Parts.rd {w : World} {f : Nat → Nat} {B : Nat} {x : SrcA} {v : SrcV} (h : Parts w f B x v) (hs : Sizes x 20000) : TestRd w x v := by
  have own : ∀ {l : Nat} {e : TypeId} {size : Nat} {v : Value} {n : Nat} {xs : List Value}, OwnL w f B l e size v n xs → ∃ p c, v = .slice p n c ∧ Rds w size p n xs := fun h => by
    obtain ⟨p, c, h1, h2, _⟩ := Rds.of_own h.1; exact ⟨p, c, h1, h2⟩
  exact ⟨own h.cells, own h.cores, h.lenc, fun i h1 h2 => ⟨own (h.core i h1 h2).1, own (h.core i h1 h2).2.1, own (h.core i h1 h2).2.2⟩, ⟨_, h.cond⟩, hs⟩
theorem TestRd.below {w w' : World} {x : SrcA} {v : SrcV} (h : TestRd w x v) (hb : Below w.heap.size w w') : TestRd w' x v := by
  have k : ∀ {size : Nat} {v : Value} {n : Nat} {xs : List Value}, (∃ p c, v = .slice p n c ∧ Rds w size p n xs) → ∃ p c, v = .slice p n c ∧ Rds w' size p n xs := fun ⟨p, c, h1, h2⟩ => ⟨p, c, h1, h2.below hb⟩
  obtain ⟨S, hc⟩ := h.cond
  exact ⟨k h.cells, k h.cores, h.lenc, fun i h1 h2 => ⟨k (h.core i h1 h2).1, k (h.core i h1 h2).2.1, k (h.core i h1 h2).2.2⟩, ⟨S, hc.below hb⟩, h.sizes⟩
theorem TestRd.like {w : World} {x y : SrcA} {v : SrcV} (h : TestRd w y v) (h1 : x.cells = y.cells) (h2 : x.cores = y.cores) (h3 : x.cond = y.cond) (hs : Sizes x 20000) : TestRd w x v := by
  obtain ⟨a, b, c, d, e, _⟩ := h
  rw [← h1] at a; rw [← h2] at b c
  refine ⟨a, b, c, ?_, by rw [h3]; exact e, hs⟩
  rw [h2]; exact d
theorem coresC_at : ∀ (vl : List CoreV) (l : List CoreA) (k : Nat) (h : k < l.length) (h' : k < vl.length) (j : Nat), j < 5 → (coresC vl l)[k * 5 + j]? = (coreC vl[k] l[k])[j]?
  | a :: vl, b :: l, 0, _, _, j, hj => by
    show (coreC a b ++ coresC vl l)[0 * 5 + j]? = _
    rw [List.getElem?_append_left (by simp [coreC]; omega), Nat.zero_mul, Nat.zero_add]; rfl
  | a :: vl, b :: l, k + 1, h, h', j, hj => by
    show (coreC a b ++ coresC vl l)[(k + 1) * 5 + j]? = _
    rw [List.getElem?_append_right (by simp [coreC]; omega), show (k + 1) * 5 + j - (coreC a b).length = k * 5 + j by simp [coreC]; omega]
    exact coresC_at vl l k (by simpa using h) (by simpa using h') j hj
/-- The cells of one of two tests' cores. -/
theorem TestRd.coreAt {w : World} {x : SrcA} {v : SrcV} (h : TestRd w x v) {p : Option Addr} {c : Nat} (hv : v.vCo = .slice p x.cores.length c) {k : Nat} (hk : k < x.cores.length) : ∃ (g off : Nat) (cv : CoreV), p = some ⟨g, off, none⟩ ∧ (∀ j, j < 5 → w.cell? ⟨g, off + (k * 5 + j), none⟩ = (coreC cv x.cores[k])[j]?) ∧ (∃ p c, cv.r = .slice p x.cores[k].regs.length c ∧ Rds w 1 p x.cores[k].regs.length (x.cores[k].regs.map u64V)) ∧ (∃ p c, cv.c = .slice p x.cores[k].code.length c ∧ Rds w 6 p x.cores[k].code.length (insL x.cores[k].code)) ∧ (∃ p c, cv.h = .slice p x.cores[k].hand.length c ∧ Rds w 6 p x.cores[k].hand.length (insL x.cores[k].hand)) := by
  obtain ⟨p', c', hv', hr⟩ := h.cores
  rw [hv] at hv'
  injection hv' with e1 _ _
  subst e1
  obtain ⟨g, off, hp, hc⟩ := hr.2 (by omega)
  have hk' : k < v.cvs.length := by rw [h.lenc]; exact hk
  have q := h.core k hk hk'
  exact ⟨g, off, v.cvs[k], hp, fun j hj => (hc _ (by omega)).trans (coresC_at _ _ k hk hk' j hj), q⟩
set_option maxRecDepth 100000 in
set_option maxHeartbeats 3200000 in
theorem lsame_any (w : World) {x : SrcA} {v u : SrcV} (hA : TestRd w x v) (hB : TestRd w x u) :
    Calls Tryz.prog 8 #[.agg #[.string x.name, v.vC, v.vCo, .bool x.fa, v.k0, v.k1, v.k2, v.k3, v.k4, v.k5], .agg #[.string x.name, u.vC, u.vCo, .bool x.fa, u.k0, u.k1, u.k2, u.k3, u.k4, u.k5]] w fun e w' => e = .returned (.bool true) ∧ Below w.heap.size w w' := by
  obtain ⟨p1, c1, e1, _⟩ := hA.cells
  obtain ⟨p2, c2, e2, _⟩ := hA.cores
  obtain ⟨p3, c3, e3, _⟩ := hB.cells
  obtain ⟨p4, c4, e4, _⟩ := hB.cores
  have hl1 := hA.sizes.cells
  have hl2 := hA.sizes.cores
  obtain ⟨vC, vCo, k0, k1, k2, k3, k4, k5, vT, vPT, vPC, vPCo, vPI, cvs, ivs⟩ := v
  obtain ⟨uC, uCo, j0, j1, j2, j3, j4, j5, uT, uPT, uPC, uPCo, uPI, cus, jvs⟩ := u
  dsimp only at e1 e2 e3 e4
  subst e1 e2 e3 e4
  have HB1 := Lib.hid (show Below w.heap.size w ((w.alloc (.cells #[.string x.name, .slice p1 x.cells.length c1, .slice p2 x.cores.length c2, .bool x.fa, k0, k1, k2, k3, k4, k5] 31)).alloc (.cells #[.string x.name, .slice p3 x.cells.length c3, .slice p4 x.cores.length c4, .bool x.fa, j0, j1, j2, j3, j4, j5] 31)) from below_alloc (below_alloc (Below.refl _ _) _) _)
  have HV := Lib.hid (hA.below HB1.out)
  have HU := Lib.hid (hB.below HB1.out)
  have HM := Lib.hid (show Blk ((w.alloc (.cells #[.string x.name, .slice p1 x.cells.length c1, .slice p2 x.cores.length c2, .bool x.fa, k0, k1, k2, k3, k4, k5] 31)).alloc (.cells #[.string x.name, .slice p3 x.cells.length c3, .slice p4 x.cores.length c4, .bool x.fa, j0, j1, j2, j3, j4, j5] 31)) 31 w.heap.size [.string x.name, .slice p1 x.cells.length c1, .slice p2 x.cores.length c2, .bool x.fa, k0, k1, k2, k3, k4, k5] from (Blk.new w _ _).alloc _)
  have HN := Lib.hid (show Blk ((w.alloc (.cells #[.string x.name, .slice p1 x.cells.length c1, .slice p2 x.cores.length c2, .bool x.fa, k0, k1, k2, k3, k4, k5] 31)).alloc (.cells #[.string x.name, .slice p3 x.cells.length c3, .slice p4 x.cores.length c4, .bool x.fa, j0, j1, j2, j3, j4, j5] 31)) 31 (w.heap.size + 1) [.string x.name, .slice p3 x.cells.length c3, .slice p4 x.cores.length c4, .bool x.fa, j0, j1, j2, j3, j4, j5] from by simpa using Blk.new (w.alloc (.cells #[.string x.name, .slice p1 x.cells.length c1, .slice p2 x.cores.length c2, .bool x.fa, k0, k1, k2, k3, k4, k5] 31)) 31 [.string x.name, .slice p3 x.cells.length c3, .slice p4 x.cores.length c4, .bool x.fa, j0, j1, j2, j3, j4, j5])
  have HC := Lib.hid (fun (w1 : World) (h1 : TestRd w1 x ⟨.slice p1 x.cells.length c1, .slice p2 x.cores.length c2, k0, k1, k2, k3, k4, k5, vT, vPT, vPC, vPCo, vPI, cvs, ivs⟩) (h2 : TestRd w1 x ⟨.slice p3 x.cells.length c3, .slice p4 x.cores.length c4, j0, j1, j2, j3, j4, j5, uT, uPT, uPC, uPCo, uPI, cus, jvs⟩) => show Calls Tryz.prog 14 #[.agg #[k0, k1, k2, k3, k4, k5], .agg #[j0, j1, j2, j3, j4, j5]] w1 fun e w' => e = .returned (.bool true) ∧ Below w1.heap.size w1 w' by
    obtain ⟨S, h1⟩ := h1.cond
    obtain ⟨S', h2⟩ := h2.cond
    have k := same_any x.cond x.cond w1 S S' _ _ h1 h2
    rw [sameT_refl] at k
    exact k)
  clear hA hB
  go_enter Tryz.func8, Tryz.ntmps8
  have hb0 := HM.out.lt
  have hb1 := HN.out.lt
  have m0 := HM.out.cell 0
  have m1 := HM.out.cell 1
  have m2 := HM.out.cell 2
  have m3 := HM.out.cell 3
  have m4 := HM.out.cell 4
  have m5 := HM.out.cell 5
  have m6 := HM.out.cell 6
  have m7 := HM.out.cell 7
  have m8 := HM.out.cell 8
  have m9 := HM.out.cell 9
  have n0 := HN.out.cell 0
  have n1 := HN.out.cell 1
  have n2 := HN.out.cell 2
  have n3 := HN.out.cell 3
  have n4 := HN.out.cell 4
  have n5 := HN.out.cell 5
  have n6 := HN.out.cell 6
  have n7 := HN.out.cell 7
  have n8 := HN.out.cell 8
  have n9 := HN.out.cell 9
  simp only [List.getElem?_cons_zero, List.getElem?_cons_succ] at m0 n0 m1 n1 m2 n2 m3 n3 m4 n4 m5 n5 m6 n6 m7 n7 m8 n8 m9 n9
  have hf : (x.fa != x.fa) = false := by cases x.fa <;> rfl
  have hnm : (x.name.toList != x.name.toList) = false := by simp

  go_wp2_with fail
  generalize (w.alloc (.cells #[.string x.name, .slice p1 x.cells.length c1, .slice p2 x.cores.length c2, .bool x.fa, k0, k1, k2, k3, k4, k5] 31)).alloc (.cells #[.string x.name, .slice p3 x.cells.length c3, .slice p4 x.cores.length c4, .bool x.fa, j0, j1, j2, j3, j4, j5] 31) = w1 at *
  have hh : w.heap.size < w.heap.size + 1 := by omega
  have HSZ := Lib.hid (show w.heap.size ≤ w1.heap.size by omega)
  have HLE := Lib.hid (show w.heap.size ≤ w.heap.size from Nat.le_refl _)
  clear m0 n0 m1 n1 m2 n2 m3 n3 m4 n4 m5 n5 m6 n6 m7 n7 m8 n8 m9 n9 hf hnm
  refine (HC.out _ HV.out HU.out).mono ?_
  rintro e w2 ⟨rfl, hb⟩
  have HV2 := Lib.hid (HV.out.below hb)
  have HU2 := Lib.hid (HU.out.below hb)
  have HM2 := Lib.hid (HM.out.below hb)
  have HN2 := Lib.hid (HN.out.below hb)
  have HB2 := Lib.hid (below_trans HB1.out hb)
  clear hb HV HU HM HN HB1 HC hb0 hb1
  have hb0 := HM2.out.lt
  have hb1 := HN2.out.lt
  generalize w.heap.size + 1 = h1 at *
  obtain ⟨h0, hh0⟩ : ∃ h0, h0 = w.heap.size := ⟨_, rfl⟩
  rw [← hh0] at hh hb0 HM2 ⊢
  have HH0 := Lib.hid hh0
  clear hh0
  have m0 := HM2.out.cell 0
  have m1 := HM2.out.cell 1
  have m2 := HM2.out.cell 2
  have m3 := HM2.out.cell 3
  have m4 := HM2.out.cell 4
  have m5 := HM2.out.cell 5
  have m6 := HM2.out.cell 6
  have m7 := HM2.out.cell 7
  have m8 := HM2.out.cell 8
  have m9 := HM2.out.cell 9
  have n0 := HN2.out.cell 0
  have n1 := HN2.out.cell 1
  have n2 := HN2.out.cell 2
  have n3 := HN2.out.cell 3
  have n4 := HN2.out.cell 4
  have n5 := HN2.out.cell 5
  have n6 := HN2.out.cell 6
  have n7 := HN2.out.cell 7
  have n8 := HN2.out.cell 8
  have n9 := HN2.out.cell 9
  simp only [List.getElem?_cons_zero, List.getElem?_cons_succ] at m0 n0 m1 n1 m2 n2 m3 n3 m4 n4 m5 n5 m6 n6 m7 n7 m8 n8 m9 n9
  go_wp2_with fail
  go_loopw [5] (fun i wr => ∃ k : Nat, k ≤ x.cells.length ∧ i = .int .i64 k ∧ ∃ j, wr = w2.drewN j) (fun i _ => x.cells.length - (intOf i).toNat)
  case atStart => exact ⟨0, by omega, rfl, 0, rfl⟩
  case round =>
    obtain ⟨k, hk, rfl, j, rfl⟩ := hrel
    by_cases hkl : k < x.cells.length
    · have hk0 : (0 : Int) ≤ k := by omega
      have hkn : (k : Int) < x.cells.length := by omega
      obtain ⟨z0, z1, e0, e1⟩ := cellL_at x.cells k hkl
      obtain ⟨q1, d1, hq1, HA⟩ := HV2.out.cells
      obtain ⟨q3, d3, hq3, HB⟩ := HU2.out.cells
      injection hq1 with hq1 hy1 hy2
      injection hq3 with hq3 hy3 hy4
      clear hy1 hy2 hy3 hy4
      subst hq1 hq3
      obtain ⟨g, off, u0, hp, hu0, a0⟩ := HA.at_ (j := k * 2) (by omega)
      obtain ⟨g2, off2, v0, hq, hv0, b0⟩ := HB.at_ (j := k * 2) (by omega)
      obtain rfl : u0 = v0 := by rw [hu0] at hv0; injection hv0
      obtain ⟨g', off', u1, hp', hu1, a1⟩ := HA.at_ (j := k * 2 + 1) (by omega)
      obtain ⟨g2', off2', v1, hq', hv1, b1⟩ := HB.at_ (j := k * 2 + 1) (by omega)
      obtain rfl : u1 = v1 := by rw [hu1] at hv1; injection hv1
      obtain ⟨rfl, rfl⟩ : g = g' ∧ off = off' := by rw [hp] at hp'; injection hp' with hp'; injection hp' with h1 h2; exact ⟨h1, h2⟩
      obtain ⟨rfl, rfl⟩ : g2 = g2' ∧ off2 = off2' := by rw [hq] at hq'; injection hq' with hq'; injection hq' with h1 h2; exact ⟨h1, h2⟩
      clear hp' hq'
      rw [← Nat.add_assoc] at a1 b1
      subst hp hq
      rw [e0] at hu0
      rw [e1] at hu1
      injection hu0 with hu0
      injection hu1 with hu1
      subst hu0 hu1
      clear hv0 hv1 e0 e1 HA HB
      unfold u64V at *
      go_wp2_with fail
      go_quiet (fail)
      go_wp2_with fail
      go_roundw
      case rel => exact ⟨k + 1, by omega, by go_num, _, rfl⟩
      case measure => simp [intOf] <;> omega
    · obtain rfl : k = x.cells.length := by omega
      have HV3 := Lib.hid (HV2.out.below (below_drewN (Below.refl _ _) j))
      have HU3 := Lib.hid (HU2.out.below (below_drewN (Below.refl _ _) j))
      have HM3 := Lib.hid (HM2.out.dn j)
      have HN3 := Lib.hid (HN2.out.dn j)
      have HB3 := Lib.hid (below_drewN HB2.out j)
      clear HV2 HU2 HM2 HN2 HB2
      go_wp2_with fail
      generalize w2.drewN j = w3 at *
      clear m0 n0 m1 n1 m2 n2 m3 n3 m4 n4 m5 n5 m6 n6 m7 n7 m8 n8 m9 n9
      go_loopw [6] (fun i wr => ∃ k : Nat, k ≤ x.cores.length ∧ i = .int .i64 k ∧ Below w3.heap.size w3 wr) (fun i _ => x.cores.length - (intOf i).toNat)
      case atStart => exact ⟨0, by omega, rfl, Below.refl _ _⟩
      case round =>
        obtain ⟨k, hk, rfl, hb⟩ := hrel
        have HV4 := Lib.hid (HV3.out.below hb)
        have HU4 := Lib.hid (HU3.out.below hb)
        have HM4 := Lib.hid (HM3.out.below hb)
        have HN4 := Lib.hid (HN3.out.below hb)
        have HB4 := Lib.hid hb
        have m2 := HM4.out.cell 2
        have n2 := HN4.out.cell 2
        have hb0 := HM4.out.lt
        have hb1 := HN4.out.lt
        simp only [List.getElem?_cons_zero, List.getElem?_cons_succ] at m2 n2
        clear hb
        by_cases hkl : k < x.cores.length
        · have hk0 : (0 : Int) ≤ k := by omega
          have hkn : (k : Int) < x.cores.length := by omega
          obtain ⟨g, off, cv, hp, hc, ⟨pr, cr, er, Hr⟩, ⟨pc, cc, ec, Hc⟩, ⟨ph, ch, eh, Hh⟩⟩ := HV4.out.coreAt rfl hkl
          obtain ⟨g2, off2, cu, hp2, hc2, ⟨qr, dr, fr, Gr⟩, ⟨qc, dc, fc, Gc⟩, ⟨qh, dh, fh, Gh⟩⟩ := HU4.out.coreAt rfl hkl
          subst hp hp2
          have hsz := HV4.out.sizes.code _ (List.getElem_mem hkl)
          generalize x.cores[k] = co at *
          obtain ⟨c_r, c_c, c_h⟩ := cv
          obtain ⟨d_r, d_c, d_h⟩ := cu
          dsimp only at er ec eh fr fc fh
          subst er ec eh fr fc fh
          have a0 : wr.cell? ⟨g, off + k * 5, none⟩ = some (.slice pr co.regs.length cr) := by have q := hc 0 (by decide); rw [← Nat.add_assoc] at q; exact q
          have b0 : wr.cell? ⟨g2, off2 + k * 5, none⟩ = some (.slice qr co.regs.length dr) := by have q := hc2 0 (by decide); rw [← Nat.add_assoc] at q; exact q
          have a1 : wr.cell? ⟨g, off + k * 5 + 1, none⟩ = some (.int .i64 (co.space : Nat)) := by have q := hc 1 (by decide); rw [← Nat.add_assoc] at q; exact q
          have b1 : wr.cell? ⟨g2, off2 + k * 5 + 1, none⟩ = some (.int .i64 (co.space : Nat)) := by have q := hc2 1 (by decide); rw [← Nat.add_assoc] at q; exact q
          have a2 : wr.cell? ⟨g, off + k * 5 + 2, none⟩ = some (.int .u64 (co.table : Nat)) := by have q := hc 2 (by decide); rw [← Nat.add_assoc] at q; exact q
          have b2 : wr.cell? ⟨g2, off2 + k * 5 + 2, none⟩ = some (.int .u64 (co.table : Nat)) := by have q := hc2 2 (by decide); rw [← Nat.add_assoc] at q; exact q
          have a3 : wr.cell? ⟨g, off + k * 5 + 3, none⟩ = some (.slice pc co.code.length cc) := by have q := hc 3 (by decide); rw [← Nat.add_assoc] at q; exact q
          have b3 : wr.cell? ⟨g2, off2 + k * 5 + 3, none⟩ = some (.slice qc co.code.length dc) := by have q := hc2 3 (by decide); rw [← Nat.add_assoc] at q; exact q
          have a4 : wr.cell? ⟨g, off + k * 5 + 4, none⟩ = some (.slice ph co.hand.length ch) := by have q := hc 4 (by decide); rw [← Nat.add_assoc] at q; exact q
          have b4 : wr.cell? ⟨g2, off2 + k * 5 + 4, none⟩ = some (.slice qh co.hand.length dh) := by have q := hc2 4 (by decide); rw [← Nat.add_assoc] at q; exact q
          have HWR := Lib.hid (fun (w1 : World) (hb : Below wr.heap.size wr w1) => lwords_any (c := cr) (d := dr) w1 (Hr.below hb) (Gr.below hb) (by unfold maxLen; omega))
          have HWC := Lib.hid (fun (w1 : World) (hb : Below wr.heap.size wr w1) => lcode_any (c := cc) (d := dc) w1 (Hc.below hb) (Gc.below hb) (by unfold maxLen; omega))
          have HWH := Lib.hid (fun (w1 : World) (hb : Below wr.heap.size wr w1) => lcode_any (c := ch) (d := dh) w1 (Hh.below hb) (Gh.below hb) (by unfold maxLen; omega))
          clear Hr Hc Hh Gr Gc Gh hc hc2 hsz
          go_wp2_with fail
          refine wp_region_held_drew (S := (fun w' => w'.cell? ⟨h0, 2, none⟩ = some (.slice (some ⟨g, off, none⟩) x.cores.length c2) ∧ w'.cell? ⟨h1, 2, none⟩ = some (.slice (some ⟨g2, off2, none⟩) x.cores.length c4) ∧ w'.cell? ⟨g, off + k * 5, none⟩ = some (.slice pr co.regs.length cr) ∧ w'.cell? ⟨g2, off2 + k * 5, none⟩ = some (.slice qr co.regs.length dr) ∧ w'.cell? ⟨g, off + k * 5 + 1, none⟩ = some (.int .i64 (co.space : Nat)) ∧ w'.cell? ⟨g2, off2 + k * 5 + 1, none⟩ = some (.int .i64 (co.space : Nat)) ∧ w'.cell? ⟨g, off + k * 5 + 2, none⟩ = some (.int .u64 (co.table : Nat)) ∧ w'.cell? ⟨g2, off2 + k * 5 + 2, none⟩ = some (.int .u64 (co.table : Nat)) ∧ w'.cell? ⟨g, off + k * 5 + 3, none⟩ = some (.slice pc co.code.length cc) ∧ w'.cell? ⟨g2, off2 + k * 5 + 3, none⟩ = some (.slice qc co.code.length dc) ∧ w'.cell? ⟨g, off + k * 5 + 4, none⟩ = some (.slice ph co.hand.length ch) ∧ w'.cell? ⟨g2, off2 + k * 5 + 4, none⟩ = some (.slice qh co.hand.length dh))) (by kernel_rfl) (by (try dsimp only); exact ⟨m2, n2, a0, b0, a1, b1, a2, b2, a3, b3, a4, b4⟩) (fun hHeld => ?_)
          refine wpAnyH_take (i := 0) (oi := ⟨some 72, _, _, _, _, _⟩) (v := ?_) rfl (by kernel_rfl) (by kernel_rfl) (by kernel_rfl) (fun _ _ _ h => h) (Or.inl ⟨by rfl, ?_⟩) (by assumption) ?_
          rotate_left
          · (intro w hSw; (try dsimp only at hSw); go_simp; try with_reducible rfl)
          simp only [Act.put, List.setIfInBounds_toArray, List.set_cons_zero, List.set_cons_succ]
          refine wpAnyH_take (i := 1) (oi := ⟨some 73, _, _, _, _, _⟩) (v := ?_) rfl (by kernel_rfl) (by kernel_rfl) (by kernel_rfl) (fun _ _ _ h => h) (Or.inl ⟨by rfl, ?_⟩) (by assumption) ?_
          rotate_left
          · (intro w hSw; (try dsimp only at hSw); go_simp; try with_reducible rfl)
          simp only [Act.put, List.setIfInBounds_toArray, List.set_cons_zero, List.set_cons_succ]
          refine wpAnyH_take (i := 2) (oi := ⟨some 74, _, _, _, _, _⟩) (v := ?_) rfl (by kernel_rfl) (by kernel_rfl) (by kernel_rfl) (fun _ _ _ h => h) (Or.inl ⟨by rfl, ?_⟩) (by assumption) ?_
          rotate_left
          · (intro w hSw; (try dsimp only at hSw); go_simp; try with_reducible rfl)
          simp only [Act.put, List.setIfInBounds_toArray, List.set_cons_zero, List.set_cons_succ]
          refine wpAnyH_take (i := 3) (oi := ⟨some 75, _, _, _, _, _⟩) (v := ?_) rfl (by kernel_rfl) (by kernel_rfl) (by kernel_rfl) (fun _ _ _ h => h) (Or.inl ⟨by rfl, ?_⟩) (by assumption) ?_
          rotate_left
          · (intro w hSw; (try dsimp only at hSw); go_simp; try with_reducible rfl)
          simp only [Act.put, List.setIfInBounds_toArray, List.set_cons_zero, List.set_cons_succ]
          refine wpAnyH_take (i := 4) (oi := ⟨some 76, _, _, _, _, _⟩) (v := ?_) rfl (by kernel_rfl) (by kernel_rfl) (by kernel_rfl) (fun _ _ _ h => h) (Or.inl ⟨by rfl, ?_⟩) (by assumption) ?_
          rotate_left
          · (intro w hSw; (try dsimp only at hSw); go_simp; try with_reducible rfl)
          simp only [Act.put, List.setIfInBounds_toArray, List.set_cons_zero, List.set_cons_succ]
          refine wpAnyH_take (i := 5) (oi := ⟨some 77, _, _, _, _, _⟩) (v := ?_) rfl (by kernel_rfl) (by kernel_rfl) (by kernel_rfl) (fun _ _ _ h => h) (Or.inl ⟨by rfl, ?_⟩) (by assumption) ?_
          rotate_left
          · (intro w hSw; (try dsimp only at hSw); go_simp; try with_reducible rfl)
          simp only [Act.put, List.setIfInBounds_toArray, List.set_cons_zero, List.set_cons_succ]
          refine wpAnyH_take (i := 6) (oi := ⟨some 78, _, _, _, _, _⟩) (v := ?_) rfl (by kernel_rfl) (by kernel_rfl) (by kernel_rfl) (fun _ _ _ h => h) (Or.inl ⟨by rfl, ?_⟩) (by assumption) ?_
          rotate_left
          · (intro w hSw; (try dsimp only at hSw); go_simp; try with_reducible rfl)
          simp only [Act.put, List.setIfInBounds_toArray, List.set_cons_zero, List.set_cons_succ]
          refine wpAnyH_take (i := 7) (oi := ⟨some 79, _, _, _, _, _⟩) (v := ?_) rfl (by kernel_rfl) (by kernel_rfl) (by kernel_rfl) (fun _ _ _ h => h) (Or.inl ⟨by rfl, ?_⟩) (by assumption) ?_
          rotate_left
          · (intro w hSw; (try dsimp only at hSw); go_simp; try with_reducible rfl)
          simp only [Act.put, List.setIfInBounds_toArray, List.set_cons_zero, List.set_cons_succ]
          refine wpAnyH_take (i := 8) (oi := ⟨some 80, _, _, _, _, _⟩) (v := ?_) rfl (by kernel_rfl) (by kernel_rfl) (by kernel_rfl) (fun _ _ _ h => h) (Or.inl ⟨by rfl, ?_⟩) (by assumption) ?_
          rotate_left
          · (intro w hSw; (try dsimp only at hSw); go_simp; try with_reducible rfl)
          simp only [Act.put, List.setIfInBounds_toArray, List.set_cons_zero, List.set_cons_succ]
          refine wpAnyH_take (i := 9) (oi := ⟨some 81, _, _, _, _, _⟩) (v := ?_) rfl (by kernel_rfl) (by kernel_rfl) (by kernel_rfl) (fun _ _ _ h => h) (Or.inl ⟨by rfl, ?_⟩) (by assumption) ?_
          rotate_left
          · (intro w hSw; (try dsimp only at hSw); go_simp; try with_reducible rfl)
          simp only [Act.put, List.setIfInBounds_toArray, List.set_cons_zero, List.set_cons_succ]
          refine wpAnyH_ready (rs := [10, 11]) (by kernel_rfl) (by simp) ?_
          refine AllReadyH.cons (o := ⟨some 7, _, _, _, _, _⟩) rfl (fun K hK => ?_) ?_
          · go_simp
            refine hK.out _ _ (by (try dsimp only); exact ⟨cell_alloc m2 _, cell_alloc n2 _, cell_alloc a0 _, cell_alloc b0 _, cell_alloc a1 _, cell_alloc b1 _, cell_alloc a2 _, cell_alloc b2 _, cell_alloc a3 _, cell_alloc b3 _, cell_alloc a4 _, cell_alloc b4 _⟩) ?_
            clear hK K hHeld
            intro hHeld
            try simp only [Act.put, List.setIfInBounds_toArray, List.set_cons_zero, List.set_cons_succ]
            refine wpAnyH_ready (rs := [11]) (by kernel_rfl) (by simp) ?_
            refine AllReadyH.cons (o := ⟨some 8, _, _, _, _, _⟩) rfl (fun K hK => ?_) AllReadyH.nil
            go_simp
            refine hK.out _ _ (by (try dsimp only); exact ⟨cell_alloc (cell_alloc m2 _) _, cell_alloc (cell_alloc n2 _) _, cell_alloc (cell_alloc a0 _) _, cell_alloc (cell_alloc b0 _) _, cell_alloc (cell_alloc a1 _) _, cell_alloc (cell_alloc b1 _) _, cell_alloc (cell_alloc a2 _) _, cell_alloc (cell_alloc b2 _) _, cell_alloc (cell_alloc a3 _) _, cell_alloc (cell_alloc b3 _) _, cell_alloc (cell_alloc a4 _) _, cell_alloc (cell_alloc b4 _) _⟩) ?_
            clear hK K hHeld
            intro hHeld
            try simp only [Act.put, List.setIfInBounds_toArray, List.set_cons_zero, List.set_cons_succ]
            refine wpAnyH_ready (rs := [12]) (by kernel_rfl) (by simp) ?_
            refine AllReadyH.cons (o := ⟨none, _, _, _, _, _⟩) rfl (fun K hK => ?_) AllReadyH.nil
            go_simp
            refine hK.out _ _ (by (try dsimp only); exact ⟨cell_alloc (cell_alloc m2 _) _, cell_alloc (cell_alloc n2 _) _, cell_alloc (cell_alloc a0 _) _, cell_alloc (cell_alloc b0 _) _, cell_alloc (cell_alloc a1 _) _, cell_alloc (cell_alloc b1 _) _, cell_alloc (cell_alloc a2 _) _, cell_alloc (cell_alloc b2 _) _, cell_alloc (cell_alloc a3 _) _, cell_alloc (cell_alloc b3 _) _, cell_alloc (cell_alloc a4 _) _, cell_alloc (cell_alloc b4 _) _⟩) ?_
            clear hK K hHeld
            intro hHeld
            try simp only [Act.put, List.setIfInBounds_toArray, List.set_cons_zero, List.set_cons_succ]
            refine wpAnyH_ready (rs := [13]) (by kernel_rfl) (by simp) ?_
            refine AllReadyH.cons (o := ⟨none, _, _, _, _, _⟩) rfl (fun K hK => ?_) AllReadyH.nil
            go_simp
            refine hK.out _ _ (by (try dsimp only); exact ⟨cell_alloc (cell_alloc m2 _) _, cell_alloc (cell_alloc n2 _) _, cell_alloc (cell_alloc a0 _) _, cell_alloc (cell_alloc b0 _) _, cell_alloc (cell_alloc a1 _) _, cell_alloc (cell_alloc b1 _) _, cell_alloc (cell_alloc a2 _) _, cell_alloc (cell_alloc b2 _) _, cell_alloc (cell_alloc a3 _) _, cell_alloc (cell_alloc b3 _) _, cell_alloc (cell_alloc a4 _) _, cell_alloc (cell_alloc b4 _) _⟩) ?_
            clear hK K hHeld
            intro hHeld
            try simp only [Act.put, List.setIfInBounds_toArray, List.set_cons_zero, List.set_cons_succ]
            refine wpAnyH_done (by kernel_rfl) ?_ _
            have K1 := Lib.hid (show Blk ((wr.alloc (.cells #[.slice pr co.regs.length cr, .int .i64 (co.space : Nat), .int .u64 (co.table : Nat), .slice pc co.code.length cc, .slice ph co.hand.length ch] 49)).alloc (.cells #[.slice qr co.regs.length dr, .int .i64 (co.space : Nat), .int .u64 (co.table : Nat), .slice qc co.code.length dc, .slice qh co.hand.length dh] 49)).drew 49 wr.heap.size [.slice pr co.regs.length cr, .int .i64 (co.space : Nat), .int .u64 (co.table : Nat), .slice pc co.code.length cc, .slice ph co.hand.length ch] from (Blk.new wr _ _).alloc _)
            have K2 := Lib.hid (show Blk ((wr.alloc (.cells #[.slice pr co.regs.length cr, .int .i64 (co.space : Nat), .int .u64 (co.table : Nat), .slice pc co.code.length cc, .slice ph co.hand.length ch] 49)).alloc (.cells #[.slice qr co.regs.length dr, .int .i64 (co.space : Nat), .int .u64 (co.table : Nat), .slice qc co.code.length dc, .slice qh co.hand.length dh] 49)).drew 49 (wr.heap.size + 1) [.slice qr co.regs.length dr, .int .i64 (co.space : Nat), .int .u64 (co.table : Nat), .slice qc co.code.length dc, .slice qh co.hand.length dh] from blk_drew (w := (wr.alloc (.cells #[.slice pr co.regs.length cr, .int .i64 (co.space : Nat), .int .u64 (co.table : Nat), .slice pc co.code.length cc, .slice ph co.hand.length ch] 49)).alloc (.cells #[.slice qr co.regs.length dr, .int .i64 (co.space : Nat), .int .u64 (co.table : Nat), .slice qc co.code.length dc, .slice qh co.hand.length dh] 49)) (by simpa using Blk.new (wr.alloc (.cells #[.slice pr co.regs.length cr, .int .i64 (co.space : Nat), .int .u64 (co.table : Nat), .slice pc co.code.length cc, .slice ph co.hand.length ch] 49)) 49 [.slice qr co.regs.length dr, .int .i64 (co.space : Nat), .int .u64 (co.table : Nat), .slice qc co.code.length dc, .slice qh co.hand.length dh]))
            have HB7 := Lib.hid (show Below wr.heap.size wr ((wr.alloc (.cells #[.slice pr co.regs.length cr, .int .i64 (co.space : Nat), .int .u64 (co.table : Nat), .slice pc co.code.length cc, .slice ph co.hand.length ch] 49)).alloc (.cells #[.slice qr co.regs.length dr, .int .i64 (co.space : Nat), .int .u64 (co.table : Nat), .slice qc co.code.length dc, .slice qh co.hand.length dh] 49)).drew from (below_alloc (below_alloc (Below.refl _ _) _) _).drew)
            have HB8 := Lib.hid (below_trans HB4.out HB7.out)
            clear hHeld m2 n2 a0 b0 a1 b1 a2 b2 a3 b3 a4 b4
            generalize ((wr.alloc (.cells #[.slice pr co.regs.length cr, .int .i64 (co.space : Nat), .int .u64 (co.table : Nat), .slice pc co.code.length cc, .slice ph co.hand.length ch] 49)).alloc (.cells #[.slice qr co.regs.length dr, .int .i64 (co.space : Nat), .int .u64 (co.table : Nat), .slice qc co.code.length dc, .slice qh co.hand.length dh] 49)).drew = w7 at *
            generalize wr.heap.size + 1 = g7 at *
            generalize wr.heap.size = g6 at *
            have k10 := K1.out.cell 0
            have k11 := K1.out.cell 1
            have k12 := K1.out.cell 2
            have k13 := K1.out.cell 3
            have k14 := K1.out.cell 4
            have k20 := K2.out.cell 0
            have k21 := K2.out.cell 1
            have k22 := K2.out.cell 2
            have k23 := K2.out.cell 3
            have k24 := K2.out.cell 4
            simp only [List.getElem?_cons_zero, List.getElem?_cons_succ] at k10 k20 k11 k21 k12 k22 k13 k23 k14 k24
            have kl1 := K1.out.lt
            have kl2 := K2.out.lt
            go_wp2_with fail
            refine (HWR.out _ HB7.out).mono ?_
            rintro e w' ⟨rfl, m, rfl⟩
            go_wp2_with fail
            refine (HWC.out _ (below_drewN HB7.out m)).mono ?_
            rintro e w' ⟨rfl, m', rfl⟩
            rw [World.drewN_drewN]
            go_wp2_with fail
            refine (HWH.out _ (below_drewN HB7.out (m + m'))).mono ?_
            rintro e w' ⟨rfl, m2', rfl⟩
            rw [World.drewN_drewN]
            go_wp2_with fail
            go_roundw
            case rel => exact ⟨k + 1, by omega, by go_num, below_drewN HB8.out _⟩
            case measure => simp [intOf] <;> omega
          refine AllReadyH.cons (o := ⟨some 8, _, _, _, _, _⟩) rfl (fun K hK => ?_) ?_
          · go_simp
            refine hK.out _ _ (by (try dsimp only); exact ⟨cell_alloc m2 _, cell_alloc n2 _, cell_alloc a0 _, cell_alloc b0 _, cell_alloc a1 _, cell_alloc b1 _, cell_alloc a2 _, cell_alloc b2 _, cell_alloc a3 _, cell_alloc b3 _, cell_alloc a4 _, cell_alloc b4 _⟩) ?_
            clear hK K hHeld
            intro hHeld
            try simp only [Act.put, List.setIfInBounds_toArray, List.set_cons_zero, List.set_cons_succ]
            refine wpAnyH_ready (rs := [10]) (by kernel_rfl) (by simp) ?_
            refine AllReadyH.cons (o := ⟨some 7, _, _, _, _, _⟩) rfl (fun K hK => ?_) AllReadyH.nil
            go_simp
            refine hK.out _ _ (by (try dsimp only); exact ⟨cell_alloc (cell_alloc m2 _) _, cell_alloc (cell_alloc n2 _) _, cell_alloc (cell_alloc a0 _) _, cell_alloc (cell_alloc b0 _) _, cell_alloc (cell_alloc a1 _) _, cell_alloc (cell_alloc b1 _) _, cell_alloc (cell_alloc a2 _) _, cell_alloc (cell_alloc b2 _) _, cell_alloc (cell_alloc a3 _) _, cell_alloc (cell_alloc b3 _) _, cell_alloc (cell_alloc a4 _) _, cell_alloc (cell_alloc b4 _) _⟩) ?_
            clear hK K hHeld
            intro hHeld
            try simp only [Act.put, List.setIfInBounds_toArray, List.set_cons_zero, List.set_cons_succ]
            refine wpAnyH_ready (rs := [12]) (by kernel_rfl) (by simp) ?_
            refine AllReadyH.cons (o := ⟨none, _, _, _, _, _⟩) rfl (fun K hK => ?_) AllReadyH.nil
            go_simp
            refine hK.out _ _ (by (try dsimp only); exact ⟨cell_alloc (cell_alloc m2 _) _, cell_alloc (cell_alloc n2 _) _, cell_alloc (cell_alloc a0 _) _, cell_alloc (cell_alloc b0 _) _, cell_alloc (cell_alloc a1 _) _, cell_alloc (cell_alloc b1 _) _, cell_alloc (cell_alloc a2 _) _, cell_alloc (cell_alloc b2 _) _, cell_alloc (cell_alloc a3 _) _, cell_alloc (cell_alloc b3 _) _, cell_alloc (cell_alloc a4 _) _, cell_alloc (cell_alloc b4 _) _⟩) ?_
            clear hK K hHeld
            intro hHeld
            try simp only [Act.put, List.setIfInBounds_toArray, List.set_cons_zero, List.set_cons_succ]
            refine wpAnyH_ready (rs := [13]) (by kernel_rfl) (by simp) ?_
            refine AllReadyH.cons (o := ⟨none, _, _, _, _, _⟩) rfl (fun K hK => ?_) AllReadyH.nil
            go_simp
            refine hK.out _ _ (by (try dsimp only); exact ⟨cell_alloc (cell_alloc m2 _) _, cell_alloc (cell_alloc n2 _) _, cell_alloc (cell_alloc a0 _) _, cell_alloc (cell_alloc b0 _) _, cell_alloc (cell_alloc a1 _) _, cell_alloc (cell_alloc b1 _) _, cell_alloc (cell_alloc a2 _) _, cell_alloc (cell_alloc b2 _) _, cell_alloc (cell_alloc a3 _) _, cell_alloc (cell_alloc b3 _) _, cell_alloc (cell_alloc a4 _) _, cell_alloc (cell_alloc b4 _) _⟩) ?_
            clear hK K hHeld
            intro hHeld
            try simp only [Act.put, List.setIfInBounds_toArray, List.set_cons_zero, List.set_cons_succ]
            refine wpAnyH_done (by kernel_rfl) ?_ _
            have K1 := Lib.hid (show Blk ((wr.alloc (.cells #[.slice qr co.regs.length dr, .int .i64 (co.space : Nat), .int .u64 (co.table : Nat), .slice qc co.code.length dc, .slice qh co.hand.length dh] 49)).alloc (.cells #[.slice pr co.regs.length cr, .int .i64 (co.space : Nat), .int .u64 (co.table : Nat), .slice pc co.code.length cc, .slice ph co.hand.length ch] 49)).drew 49 wr.heap.size [.slice qr co.regs.length dr, .int .i64 (co.space : Nat), .int .u64 (co.table : Nat), .slice qc co.code.length dc, .slice qh co.hand.length dh] from (Blk.new wr _ _).alloc _)
            have K2 := Lib.hid (show Blk ((wr.alloc (.cells #[.slice qr co.regs.length dr, .int .i64 (co.space : Nat), .int .u64 (co.table : Nat), .slice qc co.code.length dc, .slice qh co.hand.length dh] 49)).alloc (.cells #[.slice pr co.regs.length cr, .int .i64 (co.space : Nat), .int .u64 (co.table : Nat), .slice pc co.code.length cc, .slice ph co.hand.length ch] 49)).drew 49 (wr.heap.size + 1) [.slice pr co.regs.length cr, .int .i64 (co.space : Nat), .int .u64 (co.table : Nat), .slice pc co.code.length cc, .slice ph co.hand.length ch] from blk_drew (w := (wr.alloc (.cells #[.slice qr co.regs.length dr, .int .i64 (co.space : Nat), .int .u64 (co.table : Nat), .slice qc co.code.length dc, .slice qh co.hand.length dh] 49)).alloc (.cells #[.slice pr co.regs.length cr, .int .i64 (co.space : Nat), .int .u64 (co.table : Nat), .slice pc co.code.length cc, .slice ph co.hand.length ch] 49)) (by simpa using Blk.new (wr.alloc (.cells #[.slice qr co.regs.length dr, .int .i64 (co.space : Nat), .int .u64 (co.table : Nat), .slice qc co.code.length dc, .slice qh co.hand.length dh] 49)) 49 [.slice pr co.regs.length cr, .int .i64 (co.space : Nat), .int .u64 (co.table : Nat), .slice pc co.code.length cc, .slice ph co.hand.length ch]))
            have HB7 := Lib.hid (show Below wr.heap.size wr ((wr.alloc (.cells #[.slice qr co.regs.length dr, .int .i64 (co.space : Nat), .int .u64 (co.table : Nat), .slice qc co.code.length dc, .slice qh co.hand.length dh] 49)).alloc (.cells #[.slice pr co.regs.length cr, .int .i64 (co.space : Nat), .int .u64 (co.table : Nat), .slice pc co.code.length cc, .slice ph co.hand.length ch] 49)).drew from (below_alloc (below_alloc (Below.refl _ _) _) _).drew)
            have HB8 := Lib.hid (below_trans HB4.out HB7.out)
            clear hHeld m2 n2 a0 b0 a1 b1 a2 b2 a3 b3 a4 b4
            generalize ((wr.alloc (.cells #[.slice qr co.regs.length dr, .int .i64 (co.space : Nat), .int .u64 (co.table : Nat), .slice qc co.code.length dc, .slice qh co.hand.length dh] 49)).alloc (.cells #[.slice pr co.regs.length cr, .int .i64 (co.space : Nat), .int .u64 (co.table : Nat), .slice pc co.code.length cc, .slice ph co.hand.length ch] 49)).drew = w7 at *
            generalize wr.heap.size + 1 = g7 at *
            generalize wr.heap.size = g6 at *
            have k10 := K1.out.cell 0
            have k11 := K1.out.cell 1
            have k12 := K1.out.cell 2
            have k13 := K1.out.cell 3
            have k14 := K1.out.cell 4
            have k20 := K2.out.cell 0
            have k21 := K2.out.cell 1
            have k22 := K2.out.cell 2
            have k23 := K2.out.cell 3
            have k24 := K2.out.cell 4
            simp only [List.getElem?_cons_zero, List.getElem?_cons_succ] at k10 k20 k11 k21 k12 k22 k13 k23 k14 k24
            have kl1 := K1.out.lt
            have kl2 := K2.out.lt
            go_wp2_with fail
            refine (HWR.out _ HB7.out).mono ?_
            rintro e w' ⟨rfl, m, rfl⟩
            go_wp2_with fail
            refine (HWC.out _ (below_drewN HB7.out m)).mono ?_
            rintro e w' ⟨rfl, m', rfl⟩
            rw [World.drewN_drewN]
            go_wp2_with fail
            refine (HWH.out _ (below_drewN HB7.out (m + m'))).mono ?_
            rintro e w' ⟨rfl, m2', rfl⟩
            rw [World.drewN_drewN]
            go_wp2_with fail
            go_roundw
            case rel => exact ⟨k + 1, by omega, by go_num, below_drewN HB8.out _⟩
            case measure => simp [intOf] <;> omega
          exact AllReadyH.nil
        · obtain rfl : k = x.cores.length := by omega
          go_wp2_with fail
          go_ret
          exact ⟨rfl, below_trans HB3.out HB4.out⟩
end Go.Proofs.YtcaifejfkpmeeaaGreat
