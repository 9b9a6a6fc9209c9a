/- How many parts a condition has. -/
import Derived.Test.YtmnojnopejhebaaGreatMgaa
import Derived.Test.YtmnojnopejhebaaGreatMgah
import Derived.Test.YtmnojnopejhebaaGreatMgai
namespace Go.Proofs.YtmnojnopejhebaaGreat
set_option linter.unusedVariables false
set_option linter.unusedSimpArgs false
set_option maxRecDepth 100000
set_option maxHeartbeats 25600000
section
open Go.RowKit
theorem m0z {h : Bool} {l : List Ins} {k : Nat} (hk : k < l.length) (e : Int) (he : insE l[k] (l.length - k) h = e) (h0 : ¬ e = 0) : c0s h k (l.drop k) = (k, e) := by
 have q : (l.drop (k + 1)).length + 1 = l.length - k := by simp; omega
 rw [List.drop_eq_getElem_cons hk, c0s, q, he, if_neg h0]
theorem m0y {h : Bool} {l : List Ins} {k : Nat} (hk : k < l.length) (he : insE l[k] (l.length - k) h = 0) : c0s h k (l.drop k) = c0s h (k + 1) (l.drop (k + 1)) := by
 have q : (l.drop (k + 1)).length + 1 = l.length - k := by simp; omega
 rw [List.drop_eq_getElem_cons hk, c0s, q, if_pos he]
theorem p0v {h : Bool} {l : List Ins} : c0s h l.length (l.drop l.length) = (0, 0) := by rw [List.drop_length]; rfl
theorem k0h {w : World} {p : Option Addr} {l : List Ins} (h : Rds w 6 p l.length (insL l)) {j : Nat} (hj : j < l.length) : ∃ g off, p = some ⟨g, off, none⟩ ∧ w.cell? ⟨g, off + j * 6, none⟩ = some (.int .i64 l[j].op) ∧ w.cell? ⟨g, off + j * 6 + 1, none⟩ = some (.int .i64 l[j].d) ∧ w.cell? ⟨g, off + j * 6 + 2, none⟩ = some (.int .i64 l[j].n) ∧ w.cell? ⟨g, off + j * 6 + 3, none⟩ = some (.int .i64 l[j].m) ∧ w.cell? ⟨g, off + j * 6 + 4, none⟩ = some (.int .i64 l[j].imm) ∧ w.cell? ⟨g, off + j * 6 + 5, none⟩ = some (.int .i64 l[j].kind) := by
 obtain ⟨g, off, hp, hc⟩ := h.2 (by omega)
 have e : ∀ (l : List Ins) (j : Nat) (hj : j < l.length), (insL l)[j * 6]? = some (.int .i64 l[j].op) ∧ (insL l)[j * 6 + 1]? = some (.int .i64 l[j].d) ∧ (insL l)[j * 6 + 2]? = some (.int .i64 l[j].n) ∧ (insL l)[j * 6 + 3]? = some (.int .i64 l[j].m) ∧ (insL l)[j * 6 + 4]? = some (.int .i64 l[j].imm) ∧ (insL l)[j * 6 + 5]? = some (.int .i64 l[j].kind) := by
  intro l
  induction l with
  | nil => intro j hj; simp at hj
  | cons x l ih =>
   intro j hj
   have e : insL (x :: l) = b0r x.op x.d x.n x.m x.imm x.kind ++ insL l := rfl
   rw [e]
   cases j with
   | zero => exact ⟨rfl, rfl, rfl, rfl, rfl, rfl⟩
   | succ j =>
    have := ih j (by simpa using hj)
    rw [show (j + 1) * 6 = j * 6 + 6 by omega]
    exact this
 obtain ⟨e0, e1, e2, e3, e4, e5⟩ := e l j hj
 refine ⟨g, off, hp, (hc _ (by omega)).trans e0, ?_, ?_, ?_, ?_, ?_⟩
 ·rw [Nat.add_assoc]; exact (hc _ (by omega)).trans e1
 ·rw [Nat.add_assoc]; exact (hc _ (by omega)).trans e2
 ·rw [Nat.add_assoc]; exact (hc _ (by omega)).trans e3
 ·rw [Nat.add_assoc]; exact (hc _ (by omega)).trans e4
 ·rw [Nat.add_assoc]; exact (hc _ (by omega)).trans e5
theorem t0n (w : World) {p : Option Addr} {n c : Nat} {l : List Ins} (h : Bool) (hA : Rds w 6 p n (insL l)) (hn : n ≤ 20000) :
  Calls Tryz.prog 72 #[.slice p n c, .bool h] w fun e w' => e = .returned (.tuple #[.int .i64 ((c0s h 0 l).1 : Nat), .int .i64 (c0s h 0 l).2]) ∧ Below w.heap.size w w' := by
 obtain rfl : n = l.length := by have := hA.1; rw [o0c] at this; omega
 have HR := h_ hA
 have HS := h_ hn
 have HT := h_ (show ∀ a : Nat × Int, c0s h 0 l = a → Ending.returned (.tuple #[.int .i64 (a.1 : Nat), .int .i64 a.2]) = Ending.returned (.tuple #[.int .i64 ((c0s h 0 l).1 : Nat), .int .i64 (c0s h 0 l).2]) from fun a e => by rw [e])
 clear hA
 go_enter Tryz.func72, Tryz.ntmps72
 go_wp2_with fail
 go_loopw [11] (fun i wr => ∃ k : Nat, k ≤ l.length ∧ i = .int .i64 k ∧ Hid (c0s h k (l.drop k) = c0s h 0 l) ∧ Below w.heap.size w wr) (fun i _ => l.length - (intOf i).toNat)
 case atStart => exact ⟨0, by omega, rfl, h_ rfl, Below.refl _ _⟩
 case round =>
  obtain ⟨k, hk, rfl, HE, hbr⟩ := hrel
  have HR3 := h_ (HR.out.below hbr)
  have HBR := h_ hbr
  clear hbr
  by_cases hkl : k < l.length
  ·have hk0 : (0 : Int) ≤ k := by omega
   have hkn : (k : Int) < l.length := by omega
   obtain ⟨g, off, rfl, a0, a1, a2, a3, a4, a5⟩ := k0h HR3.out hkl
   have HDR := h_ (fun e (he : insE l[k] (l.length - k) h = e) h0 => HT.out _ (HE.out.symm.trans (m0z hkl e he h0)))
   have HNX := h_ (fun (he : insE l[k] (l.length - k) h = 0) => (m0y hkl he).symm.trans HE.out)
   generalize l[k] = x at *
   obtain ⟨op, d, n, m, imm, kind⟩ := x
   dsimp only at a0 a1 a2 a3 a4 a5
   have HB2 := h_ (show Below w.heap.size w (wr.alloc (.cells #[.int .i64 op, .int .i64 d, .int .i64 n, .int .i64 m, .int .i64 imm, .int .i64 kind] 91)) from bl_ HBR.out _)
   have HD2 := h_ (Blk.new wr 91 [.int .i64 op, .int .i64 d, .int .i64 n, .int .i64 m, .int .i64 imm, .int .i64 kind])
   have HV := h_ (show insE ⟨op, d, n, m, imm, kind⟩ (l.length - k) h = if ¬ b0e op d n m imm kind then 30 else if op = 22 ∧ h = false then 30 else if op = 14 ∨ brB op = true then (if imm < 1 then 134 else if ((l.length - k : Nat) : Int) < imm then 1 else 0) else 0 from rfl)
   go_wp2_with fail
   dsimp only [List.toArray] at HD2
   generalize wr.alloc (.cells #[.int .i64 op, .int .i64 d, .int .i64 n, .int .i64 m, .int .i64 imm, .int .i64 kind] 91) = w2 at *
   clear a0 a1 a2 a3 a4 a5
   have HLW := h_ (show w.heap.size ≤ wr.heap.size from HBR.out.size)
   generalize wr.heap.size = t at *
   refine (m0u _ _ _ _ _ _ _).mono ?_
   rintro e w3 ⟨rfl, hb⟩
   have HD3 := h_ (HD2.out.below hb)
   have HB3 := h_ (bt_ HB2.out hb)
   clear hb
   have hb2 := HD3.out.lt
   have d0 := HD3.out.cell 0
   have d1 := HD3.out.cell 1
   have d2 := HD3.out.cell 2
   have d3 := HD3.out.cell 3
   have d4 := HD3.out.cell 4
   have d5 := HD3.out.cell 5
   simp only [gz_, gs_] at d0 d1 d2 d3 d4 d5
   by_cases hp : b0e op d n m imm kind
   ·have hrn : g0s op d n m imm kind = 0 := by unfold g0s; rw [if_pos hp]
    rw [hrn]
    have HP := h_ hp
    clear hp hrn
    by_cases h22 : op = 22
    ·subst h22
     cases h
     ·have HF := h_ (HDR.out 30 (by rw [HV.out, if_neg (fun q => q HP.out), if_pos ⟨rfl, rfl⟩]) (by omega))
      go_wp2_with fail
      go_ret2
      exact ⟨HF.out, HB3.out⟩
     ·have HF := h_ (HNX.out (by rw [HV.out, if_neg (fun q => q HP.out), if_neg (by rintro ⟨_, q⟩; cases q), if_neg (fun q => q.elim (fun q => by omega) (fun q => by cases q))]))
      have hbr : q0a 22 = false := rfl
      go_wp2_with (go_at_call 113; refine (j0d _ _ _ _ _ _ _).mono ?_; rintro e w4 ⟨rfl, hb4⟩; rw [hbr]; have HB4 := h_ (bt_ HB3.out hb4); clear hb4)
      go_roundw
      case rel => exact ⟨k + 1, by omega, by go_num, HF, HB4.out⟩
      case measure => simp [intOf] <;> omega
    ·have e22 : (op == 22) = false := beq_eq_false_iff_ne.2 h22
     by_cases h14 : op = 14
     ·subst h14
      have HI := h_ (show insE ⟨14, d, n, m, imm, kind⟩ (l.length - k) h = (if imm < 1 then 134 else if ((l.length - k : Nat) : Int) < imm then 1 else 0) by rw [HV.out, if_neg (fun q => q HP.out), if_neg (by rintro ⟨q, _⟩; omega), if_pos (.inl rfl)])
      clear h22 e22
      by_cases hi1 : imm < 1
      ·have HF := h_ (HDR.out 134 (by rw [HI.out, if_pos hi1]) (by omega))
       go_wp2_with fail
       go_ret2
       exact ⟨HF.out, HB3.out⟩
      ·have hi1' : (1 : Int) ≤ imm := by omega
       have ei1 : decide (imm < 1) = false := decide_eq_false hi1
       by_cases hi2 : (l.length : Int) - k < imm
       ·have HF := h_ (HDR.out 1 (by rw [HI.out, if_neg hi1, if_pos (by omega)]) (by omega))
        clear hi1
        go_wp2_with fail
        go_ret2
        exact ⟨HF.out, HB3.out⟩
       ·have HF := h_ (HNX.out (by rw [HI.out, if_neg hi1, if_neg (by omega)]))
        have hi2' : imm ≤ (l.length : Int) - k := by omega
        clear hi1 hi2
        go_wp2_with fail
        go_roundw
        case rel => exact ⟨k + 1, by omega, by go_num, HF, HB3.out⟩
        case measure => simp [intOf] <;> omega
     ·have e14 : (op == 14) = false := beq_eq_false_iff_ne.2 h14
      have n14 : (op != 14) = true := bne_iff_ne.2 h14
      cases hbr : q0a op
      ·have HF := h_ (HNX.out (by rw [HV.out, if_neg (fun q => q HP.out), if_neg (by rintro ⟨q, _⟩; exact h22 q), if_neg (fun q => q.elim (fun q => h14 q) (fun q => by rw [show brB op = q0a op from rfl, hbr] at q; cases q))]))
       go_wp2_with (go_at_call 113; refine (j0d _ _ _ _ _ _ _).mono ?_; rintro e w4 ⟨rfl, hb4⟩; rw [hbr]; have HB4 := h_ (bt_ HB3.out hb4); clear hb4)
       go_roundw
       case rel => exact ⟨k + 1, by omega, by go_num, HF, HB4.out⟩
       case measure => simp [intOf] <;> omega
      ·have HI := h_ (show insE ⟨op, d, n, m, imm, kind⟩ (l.length - k) h = (if imm < 1 then 134 else if ((l.length - k : Nat) : Int) < imm then 1 else 0) by rw [HV.out, if_neg (fun q => q HP.out), if_neg (by rintro ⟨q, _⟩; exact h22 q), if_pos (.inr hbr)])
       by_cases hi1 : imm < 1
       ·have HF := h_ (HDR.out 134 (by rw [HI.out, if_pos hi1]) (by omega))
        go_wp2_with (go_at_call 113; refine (j0d _ _ _ _ _ _ _).mono ?_; rintro e w4 ⟨rfl, hb4⟩; rw [hbr]; have HB4 := h_ (bt_ HB3.out hb4); have d4 := (HD3.out.below hb4).cell 4; simp only [gz_, gs_] at d4; clear hb4)
        go_ret2
        exact ⟨HF.out, HB4.out⟩
       ·have hi1' : (1 : Int) ≤ imm := by omega
        have ei1 : decide (imm < 1) = false := decide_eq_false hi1
        by_cases hi2 : (l.length : Int) - k < imm
        ·have HF := h_ (HDR.out 1 (by rw [HI.out, if_neg hi1, if_pos (by omega)]) (by omega))
         clear hi1
         go_wp2_with (go_at_call 113; refine (j0d _ _ _ _ _ _ _).mono ?_; rintro e w4 ⟨rfl, hb4⟩; rw [hbr]; have HB4 := h_ (bt_ HB3.out hb4); have d4 := (HD3.out.below hb4).cell 4; simp only [gz_, gs_] at d4; clear hb4)
         go_ret2
         exact ⟨HF.out, HB4.out⟩
        ·have HF := h_ (HNX.out (by rw [HI.out, if_neg hi1, if_neg (by omega)]))
         have hi2' : imm ≤ (l.length : Int) - k := by omega
         clear hi1 hi2
         go_wp2_with (go_at_call 113; refine (j0d _ _ _ _ _ _ _).mono ?_; rintro e w4 ⟨rfl, hb4⟩; rw [hbr]; have HB4 := h_ (bt_ HB3.out hb4); have d4 := (HD3.out.below hb4).cell 4; simp only [gz_, gs_] at d4; clear hb4)
         go_roundw
         case rel => exact ⟨k + 1, by omega, by go_num, HF, HB4.out⟩
         case measure => simp [intOf] <;> omega
   ·have hrn : g0s op d n m imm kind = 30 := by unfold g0s; rw [if_neg hp]
    rw [hrn]
    have HF := h_ (HDR.out 30 (by rw [HV.out, if_pos hp]) (by omega))
    clear hp
    go_wp2_with fail
    go_ret2
    exact ⟨HF.out, HB3.out⟩
  ·obtain rfl : k = l.length := by omega
   have HF := h_ (HT.out _ (HE.out.symm.trans p0v))
   go_wp2_with fail
   go_ret2
   exact ⟨HF.out, HBR.out⟩
end
section
open Go.RowKit
theorem x0e {l : List Nat} {k : Nat} (h : k < l.length) (t : Nat) : (t ∈ l.take (k + 1)) ↔ (t ∈ l.take k ∨ l.getD k 0 = t) := by
 rw [← List.take_append_getElem h, List.mem_append, List.mem_singleton]
 simp only [List.getD, List.getElem?_eq_getElem h, Option.getD_some]
 constructor
 ·rintro (q | q)
  ·exact .inl q
  ·exact .inr q.symm
 ·rintro (q | q)
  ·exact .inl q
  ·exact .inr q.symm
theorem s0h (h : Bool) : ∀ (l : List Ins) (k : Nat), (c0s h k l).1 ≤ k + l.length
 | [], k => by simp [c0s]
 | x :: l, k => by
  rw [c0s]
  split
  ·have := s0h h l (k + 1)
   rw [List.length_cons]; omega
  ·simp
theorem e1f (w : World) {pT pP pr pc ph : Option Addr} {cT cP cr cc ch : Nat} {tabs : List Nat} {c : GCore} {at_ : Int} {pl : List Int} (hT : Rds w 1 pT tabs.length (tabs.map u64V)) (hP : Rds w 1 pP pl.length (pl.map i64V)) (hc : Rds w 6 pc c.code.length (insL c.code)) (hh : Rds w 6 ph c.hand.length (insL c.hand)) (ht : tabs.length ≤ 20000) (hp : pl.length ≤ maxLen) (h1 : c.code.length ≤ 20000) (h2 : c.hand.length ≤ 20000) (h3 : c.table < 18446744073709551616) :
  Calls Tryz.prog 43 #[.agg #[.slice pr c.regs.length cr, .int .i64 c.space, .int .u64 (c.table : Nat), .slice pc c.code.length cc, .slice ph c.hand.length ch], .slice pT tabs.length cT, .int .i64 at_, .slice pP pl.length cP] w fun e w' => e = .returned (.agg #[.int .i64 (d0p tabs c at_ pl).1, .int .i64 (d0p tabs c at_ pl).2]) ∧ Below w.heap.size w w' := by
 have HT := h_ (show ∀ a : Int × Int, d0p tabs c at_ pl = a → Ending.returned (.agg #[.int .i64 a.1, .int .i64 a.2]) = Ending.returned (.agg #[.int .i64 (d0p tabs c at_ pl).1, .int .i64 (d0p tabs c at_ pl).2]) from fun a e => by rw [e])
 obtain ⟨regs, space, table, code, hand⟩ := c
 dsimp only at hc hh h1 h2 h3 HT ⊢
 have HB1 := h_ (show Below w.heap.size w ((w.alloc (.cells #[.slice pr regs.length cr, .int .i64 space, .int .u64 (table : Nat), .slice pc code.length cc, .slice ph hand.length ch] 82)).alloc (.cells #[.int .i64 0, .int .i64 0] 41)) from bl_ (bl_ (Below.refl _ _) _) _)
 have HRT := h_ (hT.below HB1.out)
 have HRP := h_ (hP.below HB1.out)
 have HRC := h_ (hc.below HB1.out)
 have HRH := h_ (hh.below HB1.out)
 have HM := h_ (show Blk ((w.alloc (.cells #[.slice pr regs.length cr, .int .i64 space, .int .u64 (table : Nat), .slice pc code.length cc, .slice ph hand.length ch] 82)).alloc (.cells #[.int .i64 0, .int .i64 0] 41)) 82 w.heap.size [.slice pr regs.length cr, .int .i64 space, .int .u64 (table : Nat), .slice pc code.length cc, .slice ph hand.length ch] from (Blk.new w _ _).alloc _)
 have HN := h_ (show Blk ((w.alloc (.cells #[.slice pr regs.length cr, .int .i64 space, .int .u64 (table : Nat), .slice pc code.length cc, .slice ph hand.length ch] 82)).alloc (.cells #[.int .i64 0, .int .i64 0] 41)) 41 (w.heap.size + 1) [.int .i64 0, .int .i64 0] from by simpa using Blk.new (w.alloc (.cells #[.slice pr regs.length cr, .int .i64 space, .int .u64 (table : Nat), .slice pc code.length cc, .slice ph hand.length ch] 82)) 41 [.int .i64 0, .int .i64 0])
 have HS := h_ (And.intro ht (And.intro hp (And.intro h1 h2)))
 have HA := h_ (fun w => e0y (table : Nat) 12 w (by omega))
 rw [u0x] at HA
 clear hT hP hc hh ht hp h3
 obtain ⟨z, hz⟩ : ∃ z : Int, z = (table : Nat) := ⟨_, rfl⟩
 rw [← hz] at HB1 HM HN HA HRT HRP HRC HRH ⊢
 go_enter Tryz.func43, Tryz.ntmps43
 have hb0 := HM.out.lt
 have hb1 := HN.out.lt
 have m1 := HM.out.cell 1
 have m2 := HM.out.cell 2
 have m3 := HM.out.cell 3
 have m4 := HM.out.cell 4
 have n0 := HN.out.cell 0
 have n1 := HN.out.cell 1
 have f0 := HN.out.free 0
 have f1 := HN.out.free 1
 simp only [gz_, gs_] at m1 m2 m3 m4 n0 n1
 have HZ := h_ hz
 clear hz
 go_wp2_with fail
 generalize (w.alloc (.cells #[.slice pr regs.length cr, .int .i64 space, .int .u64 z, .slice pc code.length cc, .slice ph hand.length ch] 82)).alloc (.cells #[.int .i64 0, .int .i64 0] 41) = w1 at *
 have HQ := h_ (fun (w2 : World) (hb : Below w1.heap.size w1 w2) (k : Nat) (hk : k < 4611686018427387904) => h0t w2 (c := cP) (HRP.out.below hb) HS.out.2.1 k hk)
 have HC := h_ (fun (w2 : World) (hb : Below w1.heap.size w1 w2) => t0n w2 (c := cc) false (HRC.out.below hb) HS.out.2.2.1)
 have HH := h_ (fun (w2 : World) (hb : Below w1.heap.size w1 w2) => t0n w2 (c := ch) true (HRH.out.below hb) HS.out.2.2.2)
 go_loopw [9, 18] (fun a i wr => ∃ k : Nat, k ≤ tabs.length ∧ a = .bool (decide (table ∈ tabs.take k)) ∧ i = .int .i64 k ∧ ∃ j, wr = w1.drewN j) (fun _ i _ => tabs.length - (intOf i).toNat)
 case atStart => exact ⟨0, by omega, by simp, rfl, 0, rfl⟩
 case round =>
  obtain ⟨k, hk, rfl, rfl, j, rfl⟩ := hrel
  have hS2 := HS.out.1
  by_cases hkl : k < tabs.length
  ·have hk0 : (0 : Int) ≤ k := by omega
   have hkn : (k : Int) < tabs.length := by omega
   obtain ⟨g, off, rfl, hc⟩ := k0g HRT.out hkl
   obtain ⟨y, hy⟩ : ∃ y : Int, y = ((tabs.getD k 0 : Nat) : Int) := ⟨_, rfl⟩
   rw [← hy] at hc
   have HI := h_ (show decide (table ∈ tabs.take (k + 1)) = (decide (table ∈ tabs.take k) || (y == z)) from by
    rw [Bool.eq_iff_iff]
    simp only [decide_eq_true_eq, Bool.or_eq_true, beq_iff_eq]
    rw [x0e hkl, hy, HZ.out]
    constructor
    ·rintro (q | q)
     ·exact .inl q
     ·exact .inr (by omega)
    ·rintro (q | q)
     ·exact .inl q
     ·exact .inr (by omega))
   clear hy
   cases hkn2 : decide (table ∈ tabs.take k)
   ·go_wp2_with fail
    go_roundw
    case rel => exact ⟨k + 1, by omega, by rw [HI.out, hkn2]; simp, by go_num, _, rfl⟩
    case measure => simp [intOf] <;> omega
   ·go_wp2_with fail
    go_roundw
    case rel => exact ⟨k + 1, by omega, by rw [HI.out, hkn2]; simp, by go_num, _, rfl⟩
    case measure => simp [intOf] <;> omega
  ·obtain rfl : k = tabs.length := by omega
   rw [show tabs.take tabs.length = tabs from List.take_length]
   have HCC := h_ hkl
   clear hkl
   by_cases c1 : ¬ table % 4096 = 0
   ·have HF := h_ (show d0p tabs ⟨regs, space, table, code, hand⟩ at_ pl = (133, at_) from by unfold d0p; dsimp only; rw [if_pos c1])
    rw [decide_eq_false c1] at HA
    clear c1
    go_wp2_with (first | (go_at_call 70; refine (HA.out _).mono ?_; rintro e w' ⟨rfl, m, rfl⟩))
    refine bodyPost_ret (results_cell_row rfl _ _ (w.heap.size + 1) 41 #[.int .i64 133, .int .i64 at_] (0, 0) _ rfl (b0q (HN.out.dn _) 133 at_) Tryz.underlying41 rfl (by kernel_rfl)) rfl ⟨HT.out _ HF.out, ?_⟩
    exact (bd_ HB1.out _).setCell (Nat.le_succ _) _ |>.setCell (Nat.le_succ _) _
   rw [decide_eq_true (Decidable.of_not_not c1)] at HA
   by_cases c2 : ¬ table ∈ tabs
   ·have HF := h_ (show d0p tabs ⟨regs, space, table, code, hand⟩ at_ pl = (131, at_) from by unfold d0p; dsimp only; rw [if_neg c1, if_pos c2])
    rw [decide_eq_false c2]
    clear c1 c2
    go_wp2_with (first | (go_at_call 70; refine (HA.out _).mono ?_; rintro e w' ⟨rfl, m, rfl⟩))
    refine bodyPost_ret (results_cell_row rfl _ _ (w.heap.size + 1) 41 #[.int .i64 131, .int .i64 at_] (0, 0) _ rfl (b0q (HN.out.dn _) 131 at_) Tryz.underlying41 rfl (by kernel_rfl)) rfl ⟨HT.out _ HF.out, ?_⟩
    exact (bd_ HB1.out _).setCell (Nat.le_succ _) _ |>.setCell (Nat.le_succ _) _
   rw [decide_eq_true (Decidable.of_not_not c2)]
   by_cases c3a : space < 0
   ·have HF := h_ (show d0p tabs ⟨regs, space, table, code, hand⟩ at_ pl = (1, at_) from by unfold d0p; dsimp only; rw [if_neg c1, if_neg c2, if_pos (.inl c3a)])
    clear c1 c2
    go_wp2_with (first | (go_at_call 70; refine (HA.out _).mono ?_; rintro e w' ⟨rfl, m, rfl⟩))
    refine bodyPost_ret (results_cell_row rfl _ _ (w.heap.size + 1) 41 #[.int .i64 1, .int .i64 at_] (0, 0) _ rfl (b0q (HN.out.dn _) 1 at_) Tryz.underlying41 rfl (by kernel_rfl)) rfl ⟨HT.out _ HF.out, ?_⟩
    exact (bd_ HB1.out _).setCell (Nat.le_succ _) _ |>.setCell (Nat.le_succ _) _
   have c3a2 : (0 : Int) ≤ space := by omega
   have c3a3 : decide (space < 0) = false := decide_eq_false c3a
   by_cases c3b : 65536 ≤ space
   ·have HF := h_ (show d0p tabs ⟨regs, space, table, code, hand⟩ at_ pl = (1, at_) from by unfold d0p; dsimp only; rw [if_neg c1, if_neg c2, if_pos (.inr c3b)])
    clear c1 c2
    go_wp2_with (first | (go_at_call 70; refine (HA.out _).mono ?_; rintro e w' ⟨rfl, m, rfl⟩))
    refine bodyPost_ret (results_cell_row rfl _ _ (w.heap.size + 1) 41 #[.int .i64 1, .int .i64 at_] (0, 0) _ rfl (b0q (HN.out.dn _) 1 at_) Tryz.underlying41 rfl (by kernel_rfl)) rfl ⟨HT.out _ HF.out, ?_⟩
    exact (bd_ HB1.out _).setCell (Nat.le_succ _) _ |>.setCell (Nat.le_succ _) _
   have c3b2 : space < (65536 : Int) := by omega
   have c3 : ¬ (space < 0 ∨ 65536 ≤ space) := by omega
   have C3 := h_ (And.intro c1 (And.intro c2 c3))
   clear c1 c2 c3 c3a c3b
   have hh1 := HS.out.2.2.1
   have hh2 := HS.out.2.2.2
   by_cases c4 : 16 < code.length
   ·have HF := h_ (show d0p tabs ⟨regs, space, table, code, hand⟩ at_ pl = (136, a0i pl 16) from by unfold d0p; dsimp only; rw [if_neg C3.out.1, if_neg C3.out.2.1, if_neg C3.out.2.2, if_pos c4])
    have c4i : (16 : Int) < code.length := by omega
    clear c4
    have HQ := h_ (fun w2 hb => HQ.out w2 hb 16 (by omega))
    go_wp2_with (first | (go_at_call 70; refine (HA.out _).mono ?_; rintro e w' ⟨rfl, m, rfl⟩) | (go_at_call 42; refine (HQ.out _ (by repeat (first | exact Below.refl _ _ | refine bd_ ?_ _))).mono ?_; rintro e w' ⟨rfl, m, rfl⟩))
    refine bodyPost_ret (results_cell_row rfl _ _ (w.heap.size + 1) 41 #[.int .i64 136, .int .i64 (a0i pl 16)] (0, 0) _ rfl (b0q (HN.out.dn _) 136 (a0i pl 16)) Tryz.underlying41 rfl (by kernel_rfl)) rfl ⟨HT.out _ HF.out, ?_⟩
    exact (bd_ HB1.out _).setCell (Nat.le_succ _) _ |>.setCell (Nat.le_succ _) _
   have c4i : (code.length : Int) ≤ 16 := by omega
   have C4 := h_ c4
   clear c4
   by_cases c5 : 16 < hand.length
   ·have HF := h_ (show d0p tabs ⟨regs, space, table, code, hand⟩ at_ pl = (136, a0i pl (code.length + 16)) from by unfold d0p; dsimp only; rw [if_neg C3.out.1, if_neg C3.out.2.1, if_neg C3.out.2.2, if_neg C4.out, if_pos c5])
    have c5i : (16 : Int) < hand.length := by omega
    clear c5
    have HQ := h_ (fun w2 hb => HQ.out w2 hb (code.length + 16) (by omega))
    have hpush : ((code.length + 16 : Nat) : Int) = (code.length : Int) + 16 := by omega
    rw [hpush] at HQ
    clear hpush
    go_wp2_with (first | (go_at_call 70; refine (HA.out _).mono ?_; rintro e w' ⟨rfl, m, rfl⟩) | (go_at_call 42; refine (HQ.out _ (by repeat (first | exact Below.refl _ _ | refine bd_ ?_ _))).mono ?_; rintro e w' ⟨rfl, m, rfl⟩))
    refine bodyPost_ret (results_cell_row rfl _ _ (w.heap.size + 1) 41 #[.int .i64 136, .int .i64 (a0i pl (code.length + 16))] (0, 0) _ rfl (b0q (HN.out.dn _) 136 (a0i pl (code.length + 16))) Tryz.underlying41 rfl (by kernel_rfl)) rfl ⟨HT.out _ HF.out, ?_⟩
    exact (bd_ HB1.out _).setCell (Nat.le_succ _) _ |>.setCell (Nat.le_succ _) _
   have c5i : (hand.length : Int) ≤ 16 := by omega
   have C5 := h_ c5
   clear c5
   go_wp2_with (first | (go_at_call 70; refine (HA.out _).mono ?_; rintro e w' ⟨rfl, m, rfl⟩))
   refine (HC.out _ (by repeat (first | exact Below.refl _ _ | refine bd_ ?_ _))).mono ?_
   rintro e w3 ⟨rfl, hb⟩
   have HB3 := h_ (show Below w1.heap.size w1 w3 from by first | exact bt_ (bd_ (Below.refl _ _) _) hb | exact bt_ (Below.refl _ _) hb)
   have HM3 := h_ (HM.out.below HB3.out)
   have HN3 := h_ (HN.out.below HB3.out)
   clear hb hb0 hb1 m1 m2 m3 m4 n0 n1 f0 f1
   have hb0 := HM3.out.lt
   have hb1 := HN3.out.lt
   have m1 := HM3.out.cell 1
   have m2 := HM3.out.cell 2
   have m3 := HM3.out.cell 3
   have m4 := HM3.out.cell 4
   have n0 := HN3.out.cell 0
   have n1 := HN3.out.cell 1
   have f0 := HN3.out.free 0
   have f1 := HN3.out.free 1
   simp only [gz_, gs_] at m1 m2 m3 m4 n0 n1
   by_cases c6 : ¬ (c0s false 0 code).2 = 0
   ·have HF := h_ (show d0p tabs ⟨regs, space, table, code, hand⟩ at_ pl = ((c0s false 0 code).2, a0i pl (c0s false 0 code).1) from by unfold d0p; dsimp only; rw [if_neg C3.out.1, if_neg C3.out.2.1, if_neg C3.out.2.2, if_neg C4.out, if_neg C5.out, if_pos c6])
    have hle := s0h false code 0
    have ne0 : ((c0s false 0 code).2 == 0) = false := beq_eq_false_iff_ne.2 c6
    clear c6
    have HLE := h_ (show (c0s false 0 code).1 < 4611686018427387904 by omega)
    clear hle
    generalize c0s false 0 code = CE at *
    obtain ⟨ci, ce⟩ := CE
    dsimp only at ne0
    go_wp2_with (first | (go_at_call 42; refine (HQ.out _ (by repeat (first | exact HB3.out | refine bd_ ?_ _)) _ HLE.out).mono ?_; rintro e w' ⟨rfl, m, rfl⟩))
    refine bodyPost_ret (results_cell_row rfl _ _ (w.heap.size + 1) 41 #[.int .i64 ce, .int .i64 (a0i pl ci)] (0, 0) _ rfl (b0q (HN3.out.dn _) ce (a0i pl ci)) Tryz.underlying41 rfl (by kernel_rfl)) rfl ⟨HT.out _ HF.out, ?_⟩
    exact (bd_ (bt_ HB1.out HB3.out) _).setCell (Nat.le_succ _) _ |>.setCell (Nat.le_succ _) _
   have C6 := h_ c6
   have e6 : (c0s false 0 code).2 = 0 := Decidable.of_not_not c6
   rw [e6]
   clear c6 e6
   go_wp2_with fail
   refine (HH.out _ (by repeat (first | exact HB3.out | refine bd_ ?_ _))).mono ?_
   rintro e w4 ⟨rfl, hb⟩
   have HB4 := h_ (show Below w1.heap.size w1 w4 from by first | exact bt_ HB3.out hb | exact bt_ (bd_ HB3.out _) hb)
   have HM4 := h_ (HM.out.below HB4.out)
   have HN4 := h_ (HN.out.below HB4.out)
   clear hb hb0 hb1 m1 m2 m3 m4 n0 n1 f0 f1
   have hb0 := HM4.out.lt
   have hb1 := HN4.out.lt
   have m1 := HM4.out.cell 1
   have m2 := HM4.out.cell 2
   have m3 := HM4.out.cell 3
   have m4 := HM4.out.cell 4
   have n0 := HN4.out.cell 0
   have n1 := HN4.out.cell 1
   have f0 := HN4.out.free 0
   have f1 := HN4.out.free 1
   simp only [gz_, gs_] at m1 m2 m3 m4 n0 n1
   by_cases c7 : ¬ (c0s true 0 hand).2 = 0
   ·have HF := h_ (show d0p tabs ⟨regs, space, table, code, hand⟩ at_ pl = ((c0s true 0 hand).2, a0i pl (code.length + (c0s true 0 hand).1)) from by unfold d0p; dsimp only; rw [if_neg C3.out.1, if_neg C3.out.2.1, if_neg C3.out.2.2, if_neg C4.out, if_neg C5.out, if_neg C6.out, if_pos c7])
    have hle := s0h true hand 0
    have ne0 : ((c0s true 0 hand).2 == 0) = false := beq_eq_false_iff_ne.2 c7
    clear c7
    have HLE := h_ (show code.length + (c0s true 0 hand).1 < 4611686018427387904 by omega)
    have hci : ((c0s true 0 hand).1 : Int) ≤ 40000 := by omega
    have hci0 : (0 : Int) ≤ ((c0s true 0 hand).1 : Nat) := by omega
    clear hle
    generalize c0s true 0 hand = CE at *
    obtain ⟨ci, ce⟩ := CE
    dsimp only at ne0 hci hci0
    have HQ4 := h_ (fun w2 hb => HQ.out w2 hb (code.length + ci) HLE.out)
    have hpush : ((code.length + ci : Nat) : Int) = (code.length : Int) + ci := by omega
    rw [hpush] at HQ4
    clear hpush
    go_wp2_with (first | (go_at_call 42; refine (HQ4.out _ (by repeat (first | exact HB4.out | refine bd_ ?_ _))).mono ?_; rintro e w' ⟨rfl, m, rfl⟩))
    refine bodyPost_ret (results_cell_row rfl _ _ (w.heap.size + 1) 41 #[.int .i64 ce, .int .i64 (a0i pl (code.length + ci))] (0, 0) _ rfl (b0q (HN4.out.dn _) ce (a0i pl (code.length + ci))) Tryz.underlying41 rfl (by kernel_rfl)) rfl ⟨HT.out _ HF.out, ?_⟩
    exact (bd_ (bt_ HB1.out HB4.out) _).setCell (Nat.le_succ _) _ |>.setCell (Nat.le_succ _) _
   have e7 : (c0s true 0 hand).2 = 0 := Decidable.of_not_not c7
   have HF := h_ (show d0p tabs ⟨regs, space, table, code, hand⟩ at_ pl = (0, 0) from by unfold d0p; dsimp only; rw [if_neg C3.out.1, if_neg C3.out.2.1, if_neg C3.out.2.2, if_neg C4.out, if_neg C5.out, if_neg C6.out, if_neg c7])
   rw [e7]
   clear c7 e7
   go_wp2_with fail
   refine bodyPost_ret (results_cell_row rfl _ _ (w.heap.size + 1) 41 #[.int .i64 0, .int .i64 0] (0, 0) _ rfl (b0q HN4.out 0 0) Tryz.underlying41 rfl (by kernel_rfl)) rfl ⟨HT.out _ HF.out, ?_⟩
   exact (bt_ HB1.out HB4.out).setCell (Nat.le_succ _) _ |>.setCell (Nat.le_succ _) _
end
section
open Go.RowKit
def g0n (w : World) (T : TypeId) (g : Nat) (op d n m imm kind : Int) : Prop :=
 w.heap[g]? = some (.cells #[.int .i64 op, .int .i64 d, .int .i64 n, .int .i64 m, .int .i64 imm, .int .i64 kind] T (0, 0))
section
variable {w w' : World} {T : TypeId} {g : Nat} {op d n m imm kind : Int}
theorem g0n.new (w : World) (T : TypeId) (op d n m imm kind : Int) : g0n (w.alloc (.cells #[.int .i64 op, .int .i64 d, .int .i64 n, .int .i64 m, .int .i64 imm, .int .i64 kind] T)) T w.heap.size op d n m imm kind := heap_alloc_new w _
theorem g0n.lt (h : g0n w T g op d n m imm kind) : g < w.heap.size := (Array.getElem?_eq_some_iff.1 h).1
theorem g0n.below (h : g0n w T g op d n m imm kind) (hb : Below w.heap.size w w') : g0n w' T g op d n m imm kind := (hb.block g h.lt).trans h
theorem g0n.kept {row : Option Nat} (h : g0n w T g op d n m imm kind) (hg : w.grownBy w' row) (hne : some g ≠ row) : g0n w' T g op d n m imm kind := (hg.block g h.lt hne).trans h
theorem g0n.cells (h : g0n w T g op d n m imm kind) :
  w.cell? ⟨g, 0, none⟩ = some (.int .i64 op) ∧ w.cell? ⟨g, 1, none⟩ = some (.int .i64 d) ∧ w.cell? ⟨g, 2, none⟩ = some (.int .i64 n) ∧ w.cell? ⟨g, 3, none⟩ = some (.int .i64 m) ∧ w.cell? ⟨g, 4, none⟩ = some (.int .i64 imm) ∧ w.cell? ⟨g, 5, none⟩ = some (.int .i64 kind) := by
 refine ⟨?_, ?_, ?_, ?_, ?_, ?_⟩ <;> (rw [cell_of_row _ _ _ _ _ _ h]; rfl)
end
end
section
open Go.RowKit
theorem b1t (op d n m imm kind : Int) (w : World) :
  Calls Tryz.prog 78 #[x0w op d n m imm kind] w fun e w' => e = .returned (.bool (e1v op || x0f op)) ∧ Below w.heap.size w w' := by
 have I0 := g0n.new w 91 op d n m imm kind
 cases hl : e1v op
 ·go_enter Tryz.func78, Tryz.ntmps78
  go_wp2_with fail
  refine (x0r _ _ _ _ _ _ _).mono ?_
  rintro e w1 ⟨rfl, hb⟩
  have I1 := I0.below hb
  have hB := bt_ (bl_ (Below.refl _ _) _) hb
  clear hb I0
  obtain ⟨c0, c1, c2, c3, c4, c5⟩ := I1.cells
  go_wp2_with (go_at_call 116; refine (c1l _ _ _ _ _ _ _).mono ?_; rintro e w2 ⟨rfl, hb2⟩)
  go_ret
  exact ⟨a0l (by simp), bt_ hB hb2⟩
 ·go_enter Tryz.func78, Tryz.ntmps78
  go_wp2_with (go_at_call 115; refine (x0r _ _ _ _ _ _ _).mono ?_; rintro e w1 ⟨rfl, hb⟩)
  go_ret
  exact ⟨a0l (by simp), bt_ (bl_ (Below.refl _ _) _) hb⟩
end
section
open Go.RowKit
def j0y (cores : Nat) (x : Ins) : Nat × Nat := if accB x.op = true then (3, 1) else if x.op = 21 ∧ x.kind < 4 then (1 + cores, 0) else if x.op = 21 then (2, 0) else (0, 0)
theorem j0h (cores : Nat) (x : Ins) (l : List Ins) : b0x cores (x :: l) = ((b0x cores l).1 + (j0y cores x).1, (b0x cores l).2 + (j0y cores x).2) := by
 show (if accB x.op = true then _ else if x.op = 21 ∧ x.kind < 4 then _ else if x.op = 21 then _ else _) = _
 unfold j0y
 split
 ·rfl
 split
 ·rfl
 split
 ·rfl
 ·rfl
theorem o0p (cores : Nat) (x : Ins) : ∀ l : List Ins, b0x cores (l ++ [x]) = ((b0x cores l).1 + (j0y cores x).1, (b0x cores l).2 + (j0y cores x).2)
 | [] => j0h cores x []
 | y :: l => by
  rw [List.cons_append, j0h, j0h, o0p cores x l]
  refine Prod.ext ?_ ?_ <;> simp only <;> omega
theorem b1z (cores : Nat) (x : Ins) : (j0y cores x).1 ≤ 3 + cores ∧ (j0y cores x).2 ≤ 1 := by
 unfold j0y
 split
 ·simp
 split
 ·simp
  try omega
 split
 ·simp
  try omega
 ·simp
theorem s0r (cores : Nat) : ∀ l : List Ins, (b0x cores l).1 ≤ l.length * (3 + cores) ∧ (b0x cores l).2 ≤ l.length
 | [] => by simp [b0x]
 | y :: l => by
  have h := s0r cores l
  have h1 := b1z cores y
  rw [j0h, List.length_cons, Nat.succ_mul]
  constructor <;> simp only <;> omega
theorem f0n {cores : Nat} {l : List Ins} (hl : l.length ≤ 20000) (hc : cores ≤ 20000) : (b0x cores l).1 ≤ 400060000 ∧ (b0x cores l).2 ≤ 20000 := by
 have h := s0r cores l
 have h2 : l.length * (3 + cores) ≤ 20000 * 20003 := Nat.mul_le_mul hl (by omega)
 omega
theorem o0o {cores : Nat} {l : List Ins} {k : Nat} (h : k < l.length) : b0x cores (l.take (k + 1)) = ((b0x cores (l.take k)).1 + (j0y cores l[k]).1, (b0x cores (l.take k)).2 + (j0y cores l[k]).2) := by
 rw [← List.take_append_getElem h, o0p]
theorem s0q (w : World) {p : Option Addr} {n c : Nat} {l : List Ins} (cores : Nat) (hA : Rds w 6 p n (insL l)) (hn : n ≤ 20000) (hcs : cores ≤ 20000) :
  Calls Tryz.prog 49 #[.slice p n c, .int .i64 (cores : Nat)] w fun e w' => e = .returned (.tuple #[.int .i64 ((b0x cores l).1 : Nat), .int .i64 ((b0x cores l).2 : Nat)]) ∧ Below w.heap.size w w' := by
 obtain rfl : n = l.length := by have := hA.1; rw [o0c] at this; omega
 have HR := h_ hA
 have HS := h_ hn
 have hc0 : (0 : Int) ≤ cores := by omega
 have hc1 : (cores : Int) ≤ 20000 := by omega
 have HC := h_ hcs
 clear hA hn hcs
 go_enter Tryz.func49, Tryz.ntmps49
 go_wp2_with fail
 go_loopw [6, 7, 12] (fun a b i wr => ∃ k : Nat, k ≤ l.length ∧ a = .int .i64 ((b0x cores (l.take k)).1 : Nat) ∧ b = .int .i64 ((b0x cores (l.take k)).2 : Nat) ∧ i = .int .i64 k ∧ Below w.heap.size w wr) (fun _ _ i _ => l.length - (intOf i).toNat)
 case atStart => exact ⟨0, by omega, rfl, rfl, rfl, Below.refl _ _⟩
 case round =>
  obtain ⟨k, hk, rfl, rfl, rfl, hbr⟩ := hrel
  have HR3 := h_ (HR.out.below hbr)
  have HBR := h_ hbr
  clear hbr
  have hS2 := HS.out
  by_cases hkl : k < l.length
  ·have hk0 : (0 : Int) ≤ k := by omega
   have hkn : (k : Int) < l.length := by omega
   obtain ⟨g, off, rfl, a0, a1, a2, a3, a4, a5⟩ := k0h HR3.out hkl
   have HW := h_ (o0o (cores := cores) hkl)
   have hbig := f0n (cores := cores) (l := l.take k) (by have := HS.out; simp; omega) HC.out
   generalize l[k] = x at *
   obtain ⟨op, d, n, m, imm, kind⟩ := x
   dsimp only at a0 a1 a2 a3 a4 a5
   generalize b0x cores (l.take k) = W at *
   obtain ⟨we, wa⟩ := W
   dsimp only at hbig ⊢
   obtain ⟨hbe, hba⟩ := hbig
   have hbe0 : (0 : Int) ≤ we := by omega
   have hbe1 : (we : Int) ≤ 400060000 := by omega
   have hba0 : (0 : Int) ≤ wa := by omega
   have hba1 : (wa : Int) ≤ 20000 := by omega
   have HB2 := h_ (show Below w.heap.size w (wr.alloc (.cells #[.int .i64 op, .int .i64 d, .int .i64 n, .int .i64 m, .int .i64 imm, .int .i64 kind] 91)) from bl_ HBR.out _)
   have HD2 := h_ (Blk.new wr 91 [.int .i64 op, .int .i64 d, .int .i64 n, .int .i64 m, .int .i64 imm, .int .i64 kind])
   have HV : j0y cores ⟨op, d, n, m, imm, kind⟩ = if accB op = true then (3, 1) else if op = 21 ∧ kind < 4 then (1 + cores, 0) else if op = 21 then (2, 0) else (0, 0) := rfl
   rw [HV] at HW
   clear HV
   go_wp2_with fail
   dsimp only [List.toArray] at HD2
   generalize wr.alloc (.cells #[.int .i64 op, .int .i64 d, .int .i64 n, .int .i64 m, .int .i64 imm, .int .i64 kind] 91) = w2 at *
   clear a0 a1 a2 a3 a4 a5
   have HLW := h_ (show w.heap.size ≤ wr.heap.size from HBR.out.size)
   generalize wr.heap.size = t at *
   refine (b1t _ _ _ _ _ _ _).mono ?_
   rintro e w3 ⟨rfl, hb⟩
   have HD3 := h_ (HD2.out.below hb)
   have HB3 := h_ (bt_ HB2.out hb)
   clear hb
   have hb2 := HD3.out.lt
   have d0 := HD3.out.cell 0
   have d5 := HD3.out.cell 5
   simp only [gz_, gs_] at d0 d5
   rw [show (e1v op || x0f op) = accB op from rfl]
   cases hac : accB op
   ·rw [hac, if_neg (by decide)] at HW
    by_cases h21 : op = 21
    ·subst h21
     by_cases h4 : kind < 4
     ·rw [if_pos ⟨rfl, h4⟩] at HW
      go_wp2_with fail
      go_roundw
      case rel => exact ⟨k + 1, by omega, by rw [HW.out]; go_num, by rw [HW.out]; go_num, by go_num, HB3.out⟩
      case measure => simp [intOf] <;> omega
     ·rw [if_neg (fun q => h4 q.2), if_pos rfl] at HW
      go_wp2_with fail
      go_roundw
      case rel => exact ⟨k + 1, by omega, by rw [HW.out]; go_num, by rw [HW.out]; go_num, by go_num, HB3.out⟩
      case measure => simp [intOf] <;> omega
    ·rw [if_neg (fun q => h21 q.1), if_neg h21] at HW
     have e21 : (op == 21) = false := beq_eq_false_iff_ne.2 h21
     go_wp2_with fail
     go_roundw
     case rel => exact ⟨k + 1, by omega, by rw [HW.out]; go_num, by rw [HW.out]; go_num, by go_num, HB3.out⟩
     case measure => simp [intOf] <;> omega
   ·rw [hac, if_pos rfl] at HW
    go_wp2_with fail
    go_roundw
    case rel => exact ⟨k + 1, by omega, by rw [HW.out]; go_num, by rw [HW.out]; go_num, by go_num, HB3.out⟩
    case measure => simp [intOf] <;> omega
  ·obtain rfl : k = l.length := by omega
   have e : l.take l.length = l := List.take_length
   rw [e]
   go_wp2_with fail
   go_ret2
   exact ⟨rfl, HBR.out⟩
end
section
open Go.RowKit
theorem GRd.coreAt {w : World} {x : GSrc} {v : SrcV} (h : GRd w x v) {p : Option Addr} {c : Nat} (hv : v.vCo = .slice p x.cores.length c) {k : Nat} (hk : k < x.cores.length) : ∃ (g off : Nat) (cv : CoreV), p = some ⟨g, off, none⟩ ∧ (∀ j, j < 5 → w.cell? ⟨g, off + (k * 5 + j), none⟩ = (e0p cv x.cores[k])[j]?) ∧ RdV w 1 cv.r x.cores[k].regs.length (x.cores[k].regs.map u64V) ∧ RdV w 6 cv.c x.cores[k].code.length (insL x.cores[k].code) ∧ RdV w 6 cv.h x.cores[k].hand.length (insL x.cores[k].hand) := by
 obtain ⟨p', c', hv', hr, _⟩ := h.cores
 rw [hv] at hv'
 injection hv' with e1 _ _
 subst e1
 obtain ⟨g, off, hp, hc⟩ := hr.2 (by omega)
 have hk' : k < v.cvs.length := by rw [h.lenc]; exact hk
 have q := h.core k hk hk'
 exact ⟨g, off, v.cvs[k], hp, fun j hj => (hc _ (by omega)).trans (i0z _ _ k hk hk' j hj), q⟩
def p0p (cores : Nat) (c : GCore) : Nat := (b0x cores c.code).1 + (b0x cores c.code).2 * (b0x cores c.hand).1
theorem i0j (cores : Nat) (c : GCore) (l : List GCore) : b0m cores (c :: l) = p0p cores c + b0m cores l := rfl
theorem n0p (cores : Nat) (c : GCore) : ∀ l : List GCore, b0m cores (l ++ [c]) = b0m cores l + p0p cores c
 | [] => by rw [List.nil_append, i0j]; simp [b0m]
 | y :: l => by
  rw [List.cons_append, i0j, i0j, n0p cores c l]; omega
theorem f1p {cores : Nat} {c : GCore} (h : c.code.length ≤ 20000 ∧ c.hand.length ≤ 20000 ∧ c.regs.length ≤ 20000) (hc : cores ≤ 20000) : p0p cores c ≤ 8001600060000 := by
 have h1 := f0n (cores := cores) h.1 hc
 have h2 := f0n (cores := cores) h.2.1 hc
 have h3 := Nat.mul_le_mul h1.2 h2.1
 unfold p0p
 omega
theorem q0x {cores : Nat} (hc : cores ≤ 20000) : ∀ l : List GCore, (∀ c ∈ l, c.code.length ≤ 20000 ∧ c.hand.length ≤ 20000 ∧ c.regs.length ≤ 20000) → b0m cores l ≤ l.length * 8001600060000
 | [], _ => by simp [b0m]
 | y :: l, h => by
  have h1 := q0x hc l (fun c hm => h c (by simp [hm]))
  have h2 := f1p (h y (by simp)) hc
  rw [i0j, List.length_cons, Nat.succ_mul]; omega
theorem n0o {cores : Nat} {l : List GCore} {k : Nat} (h : k < l.length) : b0m cores (l.take (k + 1)) = b0m cores (l.take k) + p0p cores l[k] := by
 rw [← List.take_append_getElem h, n0p]
theorem p0o {cores : Nat} {l : List GCore} {k : Nat} (hl : l.length ≤ 20000) (hc : cores ≤ 20000) (h : ∀ c ∈ l, c.code.length ≤ 20000 ∧ c.hand.length ≤ 20000 ∧ c.regs.length ≤ 20000) : b0m cores (l.take k) ≤ 160032001200000000 := by
 have h1 := q0x hc (l.take k) (fun c hm => h c (List.mem_of_mem_take hm))
 have h2 : (l.take k).length ≤ 20000 := by simp; omega
 have h3 := Nat.mul_le_mul_right 8001600060000 h2
 omega
theorem m0v (w : World) {x : GSrc} {v : SrcV} (h : GRd w x v) :
  Calls Tryz.prog 17 #[.agg #[.string x.name, v.vC, v.vCo, .bool x.fa, v.k0, v.k1, v.k2, v.k3, v.k4, v.k5]] w fun e w' => e = .returned (.int .i64 (b0m x.cores.length x.cores : Nat)) ∧ Below w.heap.size w w' := by
 obtain ⟨p1, c1, e1, R1, hc1⟩ := h.cores
 have HB1 := h_ (show Below w.heap.size w (w.alloc (.cells #[.string x.name, v.vC, v.vCo, .bool x.fa, v.k0, v.k1, v.k2, v.k3, v.k4, v.k5] 31)) from bl_ (Below.refl _ _) _)
 have HG := h_ (h.below HB1.out)
 have HM := h_ (show Blk (w.alloc (.cells #[.string x.name, v.vC, v.vCo, .bool x.fa, v.k0, v.k1, v.k2, v.k3, v.k4, v.k5] 31)) 31 w.heap.size [.string x.name, v.vC, v.vCo, .bool x.fa, v.k0, v.k1, v.k2, v.k3, v.k4, v.k5] from (Blk.new w _ _))
 clear h R1
 have HS := h_ HG.out.sizes
 have HV := h_ e1
 rw [e1] at HB1 HM HG ⊢
 have hS2 := HS.out.cores
 go_enter Tryz.func17, Tryz.ntmps17
 have hb0 := HM.out.lt
 have m2 := HM.out.cell 2
 simp only [gz_, gs_] at m2
 go_wp2_with fail
 generalize w.alloc (.cells #[.string x.name, v.vC, .slice p1 x.cores.length c1, .bool x.fa, v.k0, v.k1, v.k2, v.k3, v.k4, v.k5] 31) = w1 at *
 clear hb0 m2
 go_loopw [3, 13] (fun a i wr => ∃ k : Nat, k ≤ x.cores.length ∧ a = .int .i64 (b0m x.cores.length (x.cores.take k) : Nat) ∧ i = .int .i64 k ∧ Below w1.heap.size w1 wr) (fun _ i _ => x.cores.length - (intOf i).toNat)
 case atStart => exact ⟨0, by omega, rfl, rfl, Below.refl _ _⟩
 case round =>
  obtain ⟨k, hk, rfl, rfl, hbr⟩ := hrel
  have HG2 := h_ (HG.out.below hbr)
  have HM2 := h_ (HM.out.below hbr)
  have HBR := h_ hbr
  clear hbr
  by_cases hkl : k < x.cores.length
  ·have hk0 : (0 : Int) ≤ k := by omega
   have hkn : (k : Int) < x.cores.length := by omega
   obtain ⟨g, off, cv, rfl, hc, ⟨pr, cr, er, _, _⟩, ⟨pc, cc, ec, Rc, _⟩, ⟨ph, ch, eh, Rh, _⟩⟩ := HG2.out.coreAt HV.out hkl
   have hsz := HS.out.code x.cores[k] (by simp)
   have HW := h_ (n0o (cores := x.cores.length) hkl)
   have HBIG := h_ (p0o (k := k) (cores := x.cores.length) HS.out.cores HS.out.cores HS.out.code)
   have a0 := hc 0 (by omega)
   have a1 := hc 1 (by omega)
   have a2 := hc 2 (by omega)
   have a3 := hc 3 (by omega)
   have a4 := hc 4 (by omega)
   clear hc
   rw [← Nat.add_assoc] at a1 a2 a3 a4
   simp only [e0p, Nat.add_zero, gz_, gs_] at a0 a1 a2 a3 a4
   generalize x.cores[k] = y at *
   obtain ⟨regs, space, table, code, hand⟩ := y
   obtain ⟨vr, vc, vh⟩ := cv
   dsimp only at er ec eh hsz Rc Rh a0 a1 a2 a3 a4
   subst er ec eh
   unfold u64V at a2
   have HB2 := h_ (show Below w1.heap.size w1 (wr.alloc (.cells #[.slice pr regs.length cr, .int .i64 space, .int .u64 (table : Nat), .slice pc code.length cc, .slice ph hand.length ch] 82)) from bl_ HBR.out _)
   have HBA := h_ (show Below wr.heap.size wr (wr.alloc (.cells #[.slice pr regs.length cr, .int .i64 space, .int .u64 (table : Nat), .slice pc code.length cc, .slice ph hand.length ch] 82)) from bl_ (Below.refl _ _) _)
   have HD2 := h_ (Blk.new wr 82 [.slice pr regs.length cr, .int .i64 space, .int .u64 (table : Nat), .slice pc code.length cc, .slice ph hand.length ch])
   have HC := h_ (fun w2 (hb : Below wr.heap.size wr w2) => s0q w2 (c := cc) x.cores.length (Rc.below hb) hsz.1 HS.out.cores)
   have HH := h_ (fun w2 (hb : Below wr.heap.size wr w2) => s0q w2 (c := ch) x.cores.length (Rh.below hb) hsz.2.1 HS.out.cores)
   have HE1 := h_ (show p0p x.cores.length ⟨regs, space, table, code, hand⟩ = (b0x x.cores.length code).1 + (b0x x.cores.length code).2 * (b0x x.cores.length hand).1 from rfl)
   have HWC := h_ (f0n (cores := x.cores.length) hsz.1 HS.out.cores)
   have HWH := h_ (f0n (cores := x.cores.length) hsz.2.1 HS.out.cores)
   clear Rc Rh hsz
   have m2 := ((HM2.out.alloc (.cells #[.slice pr regs.length cr, .int .i64 space, .int .u64 (table : Nat), .slice pc code.length cc, .slice ph hand.length ch] 82)).cell 2)
   have d3 := HD2.out.cell 3
   simp only [gz_, gs_] at m2 d3
   dsimp only [List.toArray] at HD2 d3
   have hb1 : wr.heap.size < (wr.alloc (.cells #[.slice pr regs.length cr, .int .i64 space, .int .u64 (table : Nat), .slice pc code.length cc, .slice ph hand.length ch] 82)).heap.size := HD2.out.lt
   go_wp2_with fail
   have HM3 := h_ (HM2.out.alloc (.cells #[.slice pr regs.length cr, .int .i64 space, .int .u64 (table : Nat), .slice pc code.length cc, .slice ph hand.length ch] 82))
   clear m2 d3 a0 a1 a2 a3 a4 hb1
   generalize wr.alloc (.cells #[.slice pr regs.length cr, .int .i64 space, .int .u64 (table : Nat), .slice pc code.length cc, .slice ph hand.length ch] 82) = w2 at *
   refine (HC.out w2 HBA.out).mono ?_
   rintro e w3 ⟨rfl, hb⟩
   have HD3 := h_ (HD2.out.below hb)
   have HM4 := h_ (HM3.out.below hb)
   have HB3 := h_ (bt_ HB2.out hb)
   have HBA3 := h_ (bt_ HBA.out hb)
   clear hb
   have hb1 := HD3.out.lt
   have hb0 := HM4.out.lt
   have m2 := HM4.out.cell 2
   have d4 := HD3.out.cell 4
   simp only [gz_, gs_] at m2 d4
   go_wp2_with fail
   refine (HH.out w3 HBA3.out).mono ?_
   rintro e w4 ⟨rfl, hb⟩
   have HB4 := h_ (bt_ HB3.out hb)
   clear hb m2 d4 hb1 hb0
   rw [HE1.out] at HW
   have hBIG := HBIG.out
   have hWC := HWC.out
   have hWH := HWH.out
   have hmul := Nat.mul_le_mul hWC.2 hWH.1
   generalize b0m x.cores.length (x.cores.take k) = E at *
   generalize b0x x.cores.length code = WC at *
   generalize b0x x.cores.length hand = WH at *
   obtain ⟨ce, ca⟩ := WC
   obtain ⟨he, ha⟩ := WH
   dsimp only at hWC hWH hmul ⊢
   have hP : ((ca : Int) * (he : Int)) = ((ca * he : Nat) : Int) := by simp
   have hW2 := HW.out
   dsimp only at hW2
   have HN2 := h_ hW2
   have HP := h_ hP
   have HBG := h_ (And.intro hBIG (And.intro hWC (And.intro hWH hmul)))
   clear hW2 hP hBIG hWC hWH hmul
   go_wp2_with fail
   go_roundw
   case rel =>
    refine ⟨k + 1, by omega, ?_, by go_num, HB4.out⟩
    rw [HN2.out, HP.out]
    obtain ⟨q1, q2, q3, q4⟩ := HBG.out
    generalize ca * he = Q at *
    rw [show wrap64 (Q : Int) = Q by unfold wrap64; omega, show wrap64 ((ce : Int) + Q) = (ce : Int) + Q by unfold wrap64; omega, show wrap64 ((E : Int) + (ce + Q)) = ((E + (ce + Q) : Nat) : Int) by unfold wrap64; omega]
   case measure => simp [intOf] <;> omega
  ·obtain rfl : k = x.cores.length := by omega
   have e : x.cores.take x.cores.length = x.cores := List.take_length
   rw [e]
   go_wp2_with fail
   go_ret
   exact ⟨rfl, bt_ HB1.out HBR.out⟩
end
section
open Go.RowKit
theorem b1h : ∀ (t : CT) (w : World) (S : Nat → Prop) (cs : List Value), a0k t ≤ 1000000000 → CT.At w S t cs →
  Calls Tryz.prog 73 #[.agg cs.toArray] w fun e w' => e = .returned (.int .i64 (a0k t : Nat)) ∧ Below w.heap.size w w' := by
 intro t
 refine CT.ind (P := fun t => ∀ (w : World) (S : Nat → Prop) (cs : List Value), a0k t ≤ 1000000000 → CT.At w S t cs → Calls Tryz.prog 73 #[.agg cs.toArray] w fun e w' => e = .returned (.int .i64 (a0k t : Nat)) ∧ Below w.heap.size w w') ?_ t
 intro k c r a v args IH w S cs hc ht
 obtain ⟨p, cap, rfl, h1, h2, h3, h4, h5⟩ := ht.own
 have HI := h_ IH
 have HN := h_ (k0j w #[.int .i64 k, .int .i64 c, .int .i64 r, .int .u64 (a : Nat), .int .u64 (v : Nat), .slice p args.length cap])
 have HB := h_ (show Below w.heap.size w (w.alloc (.cells #[.int .i64 k, .int .i64 c, .int .i64 r, .int .u64 (a : Nat), .int .u64 (v : Nat), .slice p args.length cap] 29)) from bl_ (Below.refl _ _) _)
 have HR := h_ (h5.below HB.out)
 have HD := h_ (show a0k (.mk k c r a v args) = 1 + b0i args from rfl)
 have hcl : 1 + b0i args ≤ 1000000000 := by rw [← HD.out]; exact hc
 have hcap : cap ≤ 9223372036854775807 := by unfold maxLen at h2; omega
 clear ht IH h5 hc
 generalize a0k (.mk k c r a v args) = R at *
 go_enter Tryz.func73, Tryz.ntmps73
 generalize hW1 : w.alloc (.cells #[.int .i64 k, .int .i64 c, .int .i64 r, .int .u64 (a : Nat), .int .u64 (v : Nat), .slice p args.length cap] 29) = w1 at *
 have c5 := HN.out.cell 5
 simp only [gz_, gs_] at c5
 have hsz : w.heap.size < w1.heap.size := by rw [← hW1]; simp
 have HW1 := h_ hW1
 clear hW1
 go_wp2_with fail
 go_loopw [3, 9] (fun s i wr => ∃ j : Nat, j ≤ args.length ∧ s = .int .i64 ((1 + b0i (args.take j) : Nat) : Int) ∧ i = .int .i64 j ∧ Below w1.heap.size w1 wr) (fun _ i _ => args.length - (intOf i).toNat)
 case atStart => exact ⟨0, by omega, by simp [b0i], rfl, by rw [HW1.out]; exact Below.refl _ _⟩
 case round =>
  obtain ⟨j, hj, rfl, rfl, hb⟩ := hrel
  have HBR := h_ hb
  have c5r := cell_below c5 hb
  clear hb
  by_cases hjl : j < args.length
  ·have hj0 : (0 : Int) ≤ j := by omega
   have hjn : (j : Int) < args.length := by omega
   obtain ⟨g, off, k', co', rg', ad', va', q', l', cp', rfl, e0, e1, e2, e3, e4, e5, hu⟩ := (HR.out.below HBR.out).part hjl
   obtain ⟨ht1, ht2⟩ := p0s args j hjl
   have HT1 := h_ ht1
   have hcu : a0k args[j] ≤ 1000000000 := by omega
   have HBA := h_ (bl_ (Below.refl wr.heap.size wr) (.cells #[.int .i64 k', .int .i64 co', .int .i64 rg', .int .u64 ad', .int .u64 va', .slice q' l' cp'] 29))
   have HC := h_ (HI.out _ (List.getElem_mem hjl) _ S _ hcu (hu.below HBA.out))
   clear hu
   clear ht1
   generalize args[j] = u at *
   generalize hA : b0i (args.take j) = A at *
   generalize hC : a0k u = C at *
   have hwr : IntKind.i64.wrap ((1 : Int) + A + C) = 1 + A + C := IntWalk.i64_in _ (by omega)
   go_wp2_with fail
   refine (HC.out).mono ?_
   rintro e w4 ⟨rfl, hb4⟩
   have HB4 := h_ (bt_ (bt_ HBR.out HBA.out) hb4)
   clear hb4
   go_wp2_with fail
   go_roundw
   case rel => exact ⟨j + 1, by omega, by rw [HT1.out]; first | (go_num; done) | (congr 1; omega) | (simp; omega), by go_num, HB4.out⟩
   case measure => simp [intOf]; omega
  ·obtain rfl : j = args.length := by omega
   go_wp2_with fail
   go_ret
   exact ⟨by rw [HD.out, List.take_length]; rfl, bt_ HB.out HBR.out⟩
theorem z0j : ∀ (t : CT) (w : World) (S : Nat → Prop) (cs : List Value), a0k t ≤ 1000000000 → CT.At w S t cs →
  Calls Tryz.prog 76 #[.agg cs.toArray] w fun e w' => e = .returned (.int .i64 (a0k t : Nat)) ∧ Below w.heap.size w w' := by
 intro t
 refine CT.ind (P := fun t => ∀ (w : World) (S : Nat → Prop) (cs : List Value), a0k t ≤ 1000000000 → CT.At w S t cs → Calls Tryz.prog 76 #[.agg cs.toArray] w fun e w' => e = .returned (.int .i64 (a0k t : Nat)) ∧ Below w.heap.size w w') ?_ t
 intro k c r a v args IH w S cs hc ht
 obtain ⟨p, cap, rfl, h1, h2, h3, h4, h5⟩ := ht.own
 have HI := h_ IH
 have HN := h_ (k0j w #[.int .i64 k, .int .i64 c, .int .i64 r, .int .u64 (a : Nat), .int .u64 (v : Nat), .slice p args.length cap])
 have HB := h_ (show Below w.heap.size w (w.alloc (.cells #[.int .i64 k, .int .i64 c, .int .i64 r, .int .u64 (a : Nat), .int .u64 (v : Nat), .slice p args.length cap] 29)) from bl_ (Below.refl _ _) _)
 have HR := h_ (h5.below HB.out)
 have HD := h_ (show a0k (.mk k c r a v args) = 1 + b0i args from rfl)
 have hcl : 1 + b0i args ≤ 1000000000 := by rw [← HD.out]; exact hc
 have hcap : cap ≤ 9223372036854775807 := by unfold maxLen at h2; omega
 clear ht IH h5 hc
 generalize a0k (.mk k c r a v args) = R at *
 go_enter Tryz.func76, Tryz.ntmps76
 generalize hW1 : w.alloc (.cells #[.int .i64 k, .int .i64 c, .int .i64 r, .int .u64 (a : Nat), .int .u64 (v : Nat), .slice p args.length cap] 29) = w1 at *
 have c5 := HN.out.cell 5
 simp only [gz_, gs_] at c5
 have hsz : w.heap.size < w1.heap.size := by rw [← hW1]; simp
 have HW1 := h_ hW1
 clear hW1
 go_wp2_with fail
 go_loopw [3, 4] (fun s i wr => ∃ j : Nat, j ≤ args.length ∧ s = .int .i64 ((1 + b0i (args.take j) : Nat) : Int) ∧ i = .int .i64 j ∧ Below w1.heap.size w1 wr) (fun _ i _ => args.length - (intOf i).toNat)
 case atStart => exact ⟨0, by omega, by simp [b0i], rfl, by rw [HW1.out]; exact Below.refl _ _⟩
 case round =>
  obtain ⟨j, hj, rfl, rfl, hb⟩ := hrel
  have HBR := h_ hb
  have c5r := cell_below c5 hb
  clear hb
  by_cases hjl : j < args.length
  ·have hj0 : (0 : Int) ≤ j := by omega
   have hjn : (j : Int) < args.length := by omega
   obtain ⟨g, off, k', co', rg', ad', va', q', l', cp', rfl, e0, e1, e2, e3, e4, e5, hu⟩ := (HR.out.below HBR.out).part hjl
   obtain ⟨ht1, ht2⟩ := p0s args j hjl
   have HT1 := h_ ht1
   have hcu : a0k args[j] ≤ 1000000000 := by omega
   have HC := h_ (HI.out _ (List.getElem_mem hjl) wr S _ hcu hu)
   clear hu
   clear ht1
   generalize args[j] = u at *
   generalize hA : b0i (args.take j) = A at *
   generalize hC : a0k u = C at *
   have hwr : IntKind.i64.wrap ((1 : Int) + A + C) = 1 + A + C := IntWalk.i64_in _ (by omega)
   go_wp2_with fail
   refine (HC.out).mono ?_
   rintro e w4 ⟨rfl, hb4⟩
   have HB4 := h_ (bt_ HBR.out hb4)
   clear hb4
   go_wp2_with fail
   go_roundw
   case rel => exact ⟨j + 1, by omega, by rw [HT1.out]; first | (go_num; done) | (congr 1; omega) | (simp; omega), by go_num, HB4.out⟩
   case measure => simp [intOf]; omega
  ·obtain rfl : j = args.length := by omega
   go_wp2_with fail
   go_ret
   exact ⟨by rw [HD.out, List.take_length]; rfl, bt_ HB.out HBR.out⟩
end
end Go.Proofs.YtmnojnopejhebaaGreat
