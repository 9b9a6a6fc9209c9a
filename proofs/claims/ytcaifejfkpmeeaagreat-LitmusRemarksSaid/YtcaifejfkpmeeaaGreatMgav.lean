/- The state's functions: early, handler, test, cond. -/
import Derived.Test.YtcaifejfkpmeeaaGreatMgas
import Derived.Test.YtcaifejfkpmeeaaGreatMgau
namespace Go.Proofs.YtcaifejfkpmeeaaGreat
open Go.RowKit
set_option linter.unusedVariables false
set_option linter.unusedSimpArgs false

theorem ST.after {w : World} {f : Nat → Nat} {B g n : Nat} {x : SrcA} {v : SrcV} (h : ST w f B g n x v) : w.cell? ⟨g, 16, none⟩ = some (.int .i64 (x.after : Nat)) := h.blk.cell 16
theorem gl_rd {f : Nat → Nat} {w w' : World} {r : Nat} (hg : w.grownBy w' (some r)) (hr : f r = lab 14 0) : GL f (fun l => l ≠ 0) w w' := GL.ofRow hg (fun k hk => by injection hk with hk; subst hk; rw [hr]; decide)
theorem early_yes {w : World} {f : Nat → Nat} {B g n r : Nat} {x : SrcA} {v : SrcV} (hS : ST w f B g n x v) (at_ : Int) (ha : x.after = 1) :
    Calls Tryz.prog 43 #[.pointer (some ⟨g, 0, none⟩), .pointer (some ⟨r, 0, none⟩), .int .i64 at_] w fun e w' => e = .returned (.bool true) ∧ w = w' := by
  have c16 := hS.after
  rw [ha] at c16
  have hgl := hS.lt
  clear hS ha
  go_enter Tryz.func43, Tryz.ntmps43
  go_wp2_with fail
  go_ret
  exact ⟨rfl, rfl⟩
theorem early_no {w : World} {f : Nat → Nat} {B g n r tn : Nat} {p : Option Addr} {c : Nat} {tk : List Tk} {s : RS} {x : SrcA} {v : SrcV} (hS : ST w f B g n x v) (hR : RdrL w f r tn p c tk s) (at_ : Int) (ha : ¬ x.after = 1) :
    Calls Tryz.prog 43 #[.pointer (some ⟨g, 0, none⟩), .pointer (some ⟨r, 0, none⟩), .int .i64 at_] w fun e w' => e = .returned (.bool false) ∧ RdrAt w' r tn p c tk (faultR s 110 at_) ∧ w.grownBy w' (some r) := by
  have c16 := hS.after
  have hgl := hS.lt
  have HF := Lib.hid (fault_any w 110 at_ hR.1)
  have hab : ((x.after : Int) == 1) = false := beq_eq_false_iff_ne.2 (by omega)
  clear hS ha hR
  go_enter Tryz.func43, Tryz.ntmps43
  go_wp2_with fail
  refine (HF.out).mono ?_
  rintro e w2 ⟨rfl, hr, hg⟩
  have HR := Lib.hid hr
  have HG := Lib.hid hg
  clear hr hg HF
  go_wp2_with fail
  go_ret
  exact ⟨rfl, HR.out, HG.out⟩
set_option maxRecDepth 100000 in
set_option maxHeartbeats 1600000 in
theorem handler_any {w : World} {f : Nat → Nat} {B g n r tn : Nat} {p : Option Addr} {c : Nat} {tk : List Tk} {s : RS} {x : SrcA} {v : SrcV} (hS : ST w f B g n x v) (hR : RdrL w f r tn p c tk s) (at_ : Int) :
    Calls Tryz.prog 31 #[.pointer (some ⟨g, 0, none⟩), .pointer (some ⟨r, 0, none⟩), .int .i64 at_] w (SomeST w f B g n r tn p c tk (handR x s at_)) := by
  have c16 := hS.after
  have f16 := hS.blk.free 16
  have hgl := hS.lt
  have HS := Lib.hid hS
  have HR := Lib.hid hR
  have HM := Lib.hid (show handR x s at_ = ({ x with after := 3 }, if x.after = 2 then s else faultR s 110 at_) from rfl)
  by_cases ha : x.after = 2
  · have HS2 := Lib.hid (HS.out.put (x' := { x with after := 3 }) (v' := v) (n' := n) (j := 16) (u := .int .i64 3) rfl ⟨hS.parts.cells, hS.parts.cores, hS.parts.lenc, hS.parts.core, hS.parts.cond, hS.parts.tables, hS.parts.pT, hS.parts.pC, hS.parts.pCo, hS.parts.pI, hS.parts.leni, hS.parts.ins⟩ ⟨hS.sizes.cells, hS.sizes.cores, hS.sizes.tables, hS.sizes.pT, hS.sizes.pC, hS.sizes.pCo, hS.sizes.pI, hS.sizes.ins, hS.sizes.code⟩ hS.small)
    have HR2 := Lib.hid (HR.out.set HS.out.lg 16 (.int .i64 3))
    have HX := Lib.hid (show handR x s at_ = ({ x with after := 3 }, s) by rw [HM.out, if_pos ha])
    rw [ha] at c16
    clear hS hR ha
    go_enter Tryz.func31, Tryz.ntmps31
    go_wp2_with fail
    go_end0
    exact ⟨rfl, by rw [HX.out]; exact ⟨f, v, HS2.out, HR2.out, fun _ _ => rfl, (GL.refl f _ w).set (by rw [HS.out.lg]; decide) 16 _⟩⟩
  · have hab : ((x.after : Int) != 2) = true := bne_iff_ne.2 (by omega)
    have HF := Lib.hid (fault_any w 110 at_ hR.1)
    have HX := Lib.hid (show handR x s at_ = ({ x with after := 3 }, faultR s 110 at_) by rw [HM.out, if_neg ha])
    clear hS hR ha
    go_enter Tryz.func31, Tryz.ntmps31
    go_wp2_with fail
    refine (HF.out).mono ?_
    rintro e w2 ⟨rfl, hr, hg⟩
    have hS := HS.out.rd hg HR.out.2.1
    have HR2 := Lib.hid ((HR.out.step hr hg).set hS.lg 16 (.int .i64 3))
    have HG2 := Lib.hid ((gl_rd hg HR.out.2.1).set (show f g ≠ 0 by rw [hS.lg]; decide) 16 (.int .i64 3))
    have HS2 := Lib.hid (hS.put (x' := { x with after := 3 }) (v' := v) (n' := n) (j := 16) (u := .int .i64 3) rfl ⟨hS.parts.cells, hS.parts.cores, hS.parts.lenc, hS.parts.core, hS.parts.cond, hS.parts.tables, hS.parts.pT, hS.parts.pC, hS.parts.pCo, hS.parts.pI, hS.parts.leni, hS.parts.ins⟩ ⟨hS.sizes.cells, hS.sizes.cores, hS.sizes.tables, hS.sizes.pT, hS.sizes.pC, hS.sizes.pCo, hS.sizes.pI, hS.sizes.ins, hS.sizes.code⟩ hS.small)
    have d16 := hS.after
    have e16 := hS.blk.free 16
    have hgl2 := hS.lt
    clear hr hg HF hS c16 f16
    go_wp2_with fail
    go_end0
    exact ⟨rfl, by rw [HX.out]; exact ⟨f, v, HS2.out, HR2.out, fun _ _ => rfl, HG2.out⟩⟩
set_option maxRecDepth 100000 in
set_option maxHeartbeats 1600000 in
theorem test_any {w : World} {f : Nat → Nat} {B g n r tn : Nat} {p : Option Addr} {c : Nat} {tk : List Tk} {s : RS} {x : SrcA} {v : SrcV} (hS : ST w f B g n x v) (hR : RdrL w f r tn p c tk s) :
    Calls Tryz.prog 26 #[.pointer (some ⟨g, 0, none⟩), .pointer (some ⟨r, 0, none⟩)] w (SomeST w f B g n r tn p c tk (testR tk x s)) := by
  have HS := Lib.hid hS
  have HR := Lib.hid hR
  have HP := Lib.hid (peek_any w hR.1)
  have hrl := hR.1.lt
  have HM := Lib.hid (show testR tk x s = ({ x with name := (peekR tk s).2.1, after := 1 }, nextR tk (if (peekR tk s).1 = 1 then s else failR tk s 110)) from rfl)
  clear hS hR
  generalize peekR tk s = t at *
  obtain ⟨tk1, tt, ta⟩ := t
  simp only [tkV] at HP
  simp only at HM
  go_enter Tryz.func26, Tryz.ntmps26
  go_wp2_with fail
  refine (HP.out).mono ?_
  rintro e w2 ⟨rfl, hb⟩
  have hz := hb.size
  have HB := Lib.hid (below_alloc hb (.cells #[.int .i64 tk1, .string tt, .int .i64 ta] 75))
  have HT2 := Lib.hid (show Blk (w2.alloc (.cells #[.int .i64 tk1, .string tt, .int .i64 ta] 75)) 75 w2.heap.size [.int .i64 tk1, .string tt, .int .i64 ta] from Blk.new w2 _ _)
  have HS2 := Lib.hid (HS.out.below HB.out)
  have HR2 := Lib.hid (HR.out.below HB.out)
  have HG2 := Lib.hid (GL.ofBelow (f := f) (L := fun l => l ≠ 0) HB.out)
  clear hb HP
  by_cases hk : tk1 = 1
  · have HX := Lib.hid (show testR tk x s = ({ x with name := tt, after := 1 }, nextR tk s) by rw [HM.out, if_pos hk])
    subst hk
    have HN := Lib.hid (next_any _ HR2.out.1)
    go_wp2_with fail
    refine (HN.out).mono ?_
    rintro e w9 ⟨rfl, hr, hg⟩
    have HS9 := Lib.hid (HS2.out.rd hg HR2.out.2.1)
    have HR9 := Lib.hid (HR2.out.step hr hg)
    have HG9 := Lib.hid (HG2.out.trans (gl_rd hg HR2.out.2.1) (fun _ _ => rfl))
    have HT9 := Lib.hid (HT2.out.kept hg (by intro e; injection e; omega))
    clear hr hg HN
    have HSa := Lib.hid (HS9.out.put (x' := { x with name := tt }) (v' := v) (n' := n) (j := 0) (u := .string tt) rfl ⟨HS9.out.parts.cells, HS9.out.parts.cores, HS9.out.parts.lenc, HS9.out.parts.core, HS9.out.parts.cond, HS9.out.parts.tables, HS9.out.parts.pT, HS9.out.parts.pC, HS9.out.parts.pCo, HS9.out.parts.pI, HS9.out.parts.leni, HS9.out.parts.ins⟩ ⟨HS9.out.sizes.cells, HS9.out.sizes.cores, HS9.out.sizes.tables, HS9.out.sizes.pT, HS9.out.sizes.pC, HS9.out.sizes.pCo, HS9.out.sizes.pI, HS9.out.sizes.ins, HS9.out.sizes.code⟩ HS9.out.small)
    have HSb := Lib.hid (HSa.out.put (x' := { x with name := tt, after := 1 }) (v' := v) (n' := n) (j := 16) (u := .int .i64 1) rfl ⟨HSa.out.parts.cells, HSa.out.parts.cores, HSa.out.parts.lenc, HSa.out.parts.core, HSa.out.parts.cond, HSa.out.parts.tables, HSa.out.parts.pT, HSa.out.parts.pC, HSa.out.parts.pCo, HSa.out.parts.pI, HSa.out.parts.leni, HSa.out.parts.ins⟩ ⟨HSa.out.sizes.cells, HSa.out.sizes.cores, HSa.out.sizes.tables, HSa.out.sizes.pT, HSa.out.sizes.pC, HSa.out.sizes.pCo, HSa.out.sizes.pI, HSa.out.sizes.ins, HSa.out.sizes.code⟩ HSa.out.small)
    have HRb := Lib.hid ((HR9.out.set HS9.out.lg 0 (.string tt)).set HS9.out.lg 16 (.int .i64 1))
    have HGb := Lib.hid ((HG9.out.set (show f g ≠ 0 by rw [HS9.out.lg]; decide) 0 (.string tt)).set (show f g ≠ 0 by rw [HS9.out.lg]; decide) 16 (.int .i64 1))
    have c0 := HS9.out.blk.cell 0
    have c16 := HS9.out.after
    have f0 := HS9.out.blk.free 0
    have f16 := HS9.out.blk.free 16
    have hgl := HS9.out.lt
    simp only [stC, List.getElem?_cons_zero] at c0
    have t1 := HT9.out.cell 1
    simp only [List.getElem?_cons_zero, List.getElem?_cons_succ] at t1
    have htl := HT9.out.lt
    go_wp2_with fail
    go_end0
    exact ⟨rfl, by rw [HX.out]; exact ⟨f, v, HSb.out, HRb.out, fun _ _ => rfl, HGb.out⟩⟩
  · have HX := Lib.hid (show testR tk x s = ({ x with name := tt, after := 1 }, nextR tk (failR tk s 110)) by rw [HM.out, if_neg hk])
    have hkb : (tk1 != 1) = true := bne_iff_ne.2 hk
    have HF := Lib.hid (fail_any _ 110 HR2.out.1)
    clear hk
    go_wp2_with fail
    refine (HF.out).mono ?_
    rintro e w5 ⟨rfl, hr, hg⟩
    have HS5 := Lib.hid (HS2.out.rd hg HR2.out.2.1)
    have HR5 := Lib.hid (HR2.out.step hr hg)
    have HG5 := Lib.hid (HG2.out.trans (gl_rd hg HR2.out.2.1) (fun _ _ => rfl))
    have HT5 := Lib.hid (HT2.out.kept hg (by intro e; injection e; omega))
    clear hr hg HF
    have HN := Lib.hid (next_any w5 HR5.out.1)
    go_wp2_with fail
    refine (HN.out).mono ?_
    rintro e w9 ⟨rfl, hr, hg⟩
    have HS9 := Lib.hid (HS5.out.rd hg HR5.out.2.1)
    have HR9 := Lib.hid (HR5.out.step hr hg)
    have HG9 := Lib.hid (HG5.out.trans (gl_rd hg HR5.out.2.1) (fun _ _ => rfl))
    have HT9 := Lib.hid (HT5.out.kept hg (by intro e; injection e; omega))
    clear hr hg HN
    have HSa := Lib.hid (HS9.out.put (x' := { x with name := tt }) (v' := v) (n' := n) (j := 0) (u := .string tt) rfl ⟨HS9.out.parts.cells, HS9.out.parts.cores, HS9.out.parts.lenc, HS9.out.parts.core, HS9.out.parts.cond, HS9.out.parts.tables, HS9.out.parts.pT, HS9.out.parts.pC, HS9.out.parts.pCo, HS9.out.parts.pI, HS9.out.parts.leni, HS9.out.parts.ins⟩ ⟨HS9.out.sizes.cells, HS9.out.sizes.cores, HS9.out.sizes.tables, HS9.out.sizes.pT, HS9.out.sizes.pC, HS9.out.sizes.pCo, HS9.out.sizes.pI, HS9.out.sizes.ins, HS9.out.sizes.code⟩ HS9.out.small)
    have HSb := Lib.hid (HSa.out.put (x' := { x with name := tt, after := 1 }) (v' := v) (n' := n) (j := 16) (u := .int .i64 1) rfl ⟨HSa.out.parts.cells, HSa.out.parts.cores, HSa.out.parts.lenc, HSa.out.parts.core, HSa.out.parts.cond, HSa.out.parts.tables, HSa.out.parts.pT, HSa.out.parts.pC, HSa.out.parts.pCo, HSa.out.parts.pI, HSa.out.parts.leni, HSa.out.parts.ins⟩ ⟨HSa.out.sizes.cells, HSa.out.sizes.cores, HSa.out.sizes.tables, HSa.out.sizes.pT, HSa.out.sizes.pC, HSa.out.sizes.pCo, HSa.out.sizes.pI, HSa.out.sizes.ins, HSa.out.sizes.code⟩ HSa.out.small)
    have HRb := Lib.hid ((HR9.out.set HS9.out.lg 0 (.string tt)).set HS9.out.lg 16 (.int .i64 1))
    have HGb := Lib.hid ((HG9.out.set (show f g ≠ 0 by rw [HS9.out.lg]; decide) 0 (.string tt)).set (show f g ≠ 0 by rw [HS9.out.lg]; decide) 16 (.int .i64 1))
    have c0 := HS9.out.blk.cell 0
    have c16 := HS9.out.after
    have f0 := HS9.out.blk.free 0
    have f16 := HS9.out.blk.free 16
    have hgl := HS9.out.lt
    simp only [stC, List.getElem?_cons_zero] at c0
    have t1 := HT9.out.cell 1
    simp only [List.getElem?_cons_zero, List.getElem?_cons_succ] at t1
    have htl := HT9.out.lt
    go_wp2_with fail
    go_end0
    exact ⟨rfl, by rw [HX.out]; exact ⟨f, v, HSb.out, HRb.out, fun _ _ => rfl, HGb.out⟩⟩
/-- A condition stored, its place, and that the test is whole. -/
theorem condput {w : World} {f : Nat → Nat} {B g n : Nat} {x : SrcA} {v : SrcV} (hS : ST w f B g n x v) {t : CT} {a b c d e h : Value} (ht : CT.At w (fun g => f g = lab 8 0 ∧ g < w.heap.size) t [a, b, c, d, e, h]) (at_ : Int) :
    ∃ v', ST ((((((((w.setCell ⟨g, 4, none⟩ a).setCell ⟨g, 5, none⟩ b).setCell ⟨g, 6, none⟩ c).setCell ⟨g, 7, none⟩ d).setCell ⟨g, 8, none⟩ e).setCell ⟨g, 9, none⟩ h).setCell ⟨g, 15, none⟩ (.int .i64 at_)).setCell ⟨g, 16, none⟩ (.int .i64 4)) f B g n { x with cond := t, pCond := at_, after := 4 } v' := by
  obtain ⟨v', hv'⟩ : ∃ v' : SrcV, v' = { v with k0 := a, k1 := b, k2 := c, k3 := d, k4 := e, k5 := h } := ⟨_, rfl⟩
  have hG : GL f (fun l => l = lab 9 0) w ((((((((w.setCell ⟨g, 4, none⟩ a).setCell ⟨g, 5, none⟩ b).setCell ⟨g, 6, none⟩ c).setCell ⟨g, 7, none⟩ d).setCell ⟨g, 8, none⟩ e).setCell ⟨g, 9, none⟩ h).setCell ⟨g, 15, none⟩ (.int .i64 at_)).setCell ⟨g, 16, none⟩ (.int .i64 4)) :=
    ((((((((GL.refl f _ w).set hS.lg 4 _).set hS.lg 5 _).set hS.lg 6 _).set hS.lg 7 _).set hS.lg 8 _).set hS.lg 9 _).set hS.lg 15 _).set hS.lg 16 _
  have hB := (((((((hS.blk.set 4 a).set 5 b).set 6 c).set 7 d).set 8 e).set 9 h).set 15 (.int .i64 at_)).set 16 (.int .i64 4)
  have p0 : Parts w f B { x with cond := t, pCond := at_, after := 4 } { v with k0 := a, k1 := b, k2 := c, k3 := d, k4 := e, k5 := h } := ⟨hS.parts.cells, hS.parts.cores, hS.parts.lenc, hS.parts.core, ht, hS.parts.tables, hS.parts.pT, hS.parts.pC, hS.parts.pCo, hS.parts.pI, hS.parts.leni, hS.parts.ins⟩
  have p := p0.but (f' := f) hG (fun _ _ => rfl)
  have ne : ∀ k i, 1 ≤ k → k ≤ 13 → k ≠ 9 → ¬ lab k i = lab 9 0 := fun k i h1 h2 h3 => by unfold lab; omega
  refine ⟨{ v with k0 := a, k1 := b, k2 := c, k3 := d, k4 := e, k5 := h }, ?_, hS.lg, hS.le, ⟨p.cells (ne 6 0 (by decide) (by decide) (by decide)), p.cores (ne 7 0 (by decide) (by decide) (by decide)), p.lenc, fun i h1 h2 => ⟨(p.core i h1 h2).1 (ne 10 i (by decide) (by decide) (by decide)), (p.core i h1 h2).2.1 (ne 11 i (by decide) (by decide) (by decide)), (p.core i h1 h2).2.2 (ne 12 i (by decide) (by decide) (by decide))⟩, p.cond (ne 8 0 (by decide) (by decide) (by decide)), p.tables (ne 1 0 (by decide) (by decide) (by decide)), p.pT (ne 2 0 (by decide) (by decide) (by decide)), p.pC (ne 3 0 (by decide) (by decide) (by decide)), p.pCo (ne 4 0 (by decide) (by decide) (by decide)), p.pI (ne 5 0 (by decide) (by decide) (by decide)), p.leni, fun i h1 h2 => p.ins i h1 h2 (ne 13 i (by decide) (by decide) (by decide))⟩, ⟨hS.sizes.cells, hS.sizes.cores, hS.sizes.tables, hS.sizes.pT, hS.sizes.pC, hS.sizes.pCo, hS.sizes.pI, hS.sizes.ins, hS.sizes.code⟩, hS.small⟩
  simpa [stC] using hB
set_option maxRecDepth 100000 in
set_option maxHeartbeats 1600000 in
theorem condm_any {w : World} {f : Nat → Nat} {B g n r tn : Nat} {p : Option Addr} {c : Nat} {tk : List Tk} {s : RS} {x : SrcA} {v : SrcV} (hS : ST w f B g n x v) (hR : RdrL w f r tn p c tk s) (fa : Bool) (at_ : Int) :
    Calls Tryz.prog 32 #[.pointer (some ⟨g, 0, none⟩), .pointer (some ⟨r, 0, none⟩), .bool fa, .int .i64 at_] w (SomeST w f B g n r tn p c tk (condR tk x s fa at_)) := by
  have HX := Lib.hid (show condR tk x s fa at_ = ({ x with fa := fa, cond := (parseC tk s).1, pCond := at_, after := 4 }, (parseC tk s).2) from rfl)
  have hrl := hR.1.lt
  have HSa := Lib.hid (hS.put (x' := { x with fa := fa }) (v' := v) (n' := n) (j := 3) (u := .bool fa) rfl ⟨hS.parts.cells, hS.parts.cores, hS.parts.lenc, hS.parts.core, hS.parts.cond, hS.parts.tables, hS.parts.pT, hS.parts.pC, hS.parts.pCo, hS.parts.pI, hS.parts.leni, hS.parts.ins⟩ ⟨hS.sizes.cells, hS.sizes.cores, hS.sizes.tables, hS.sizes.pT, hS.sizes.pC, hS.sizes.pCo, hS.sizes.pI, hS.sizes.ins, hS.sizes.code⟩ hS.small)
  have HRa := Lib.hid (hR.set hS.lg 3 (.bool fa))
  have HGa := Lib.hid ((GL.refl f (fun l => l ≠ 0) w).set (show f g ≠ 0 by rw [hS.lg]; decide) 3 (.bool fa))
  have HC := Lib.hid (cparse_any _ HRa.out.1 HRa.out.pw)
  have c3 := hS.blk.cell 3
  have f3 := hS.blk.free 3
  have hgl := hS.lt
  simp only [stC, List.getElem?_cons_zero, List.getElem?_cons_succ] at c3
  clear hS hR
  generalize parseC tk s = y at *
  obtain ⟨ct, s2⟩ := y
  simp only at HX
  go_enter Tryz.func32, Tryz.ntmps32
  go_wp2_with fail
  refine (HC.out).mono ?_
  rintro e w2 ⟨cs, rfl, ht, hr, hg⟩
  obtain ⟨k1, co1, rg1, ad1, va1, p1, l1, cp1, rfl⟩ := ht.cells
  have hz := hg.size
  have hz0 : w.heap.size ≤ w2.heap.size := by simpa using hz
  obtain ⟨f2, hf2⟩ : ∃ f2 : Nat → Nat, f2 = fun i => if w.heap.size ≤ i then lab 8 0 else f i := ⟨_, rfl⟩
  have ha2 : ∀ i, i < w.heap.size → f2 i = f i := fun i hi => by rw [hf2]; exact if_neg (by omega)
  have hb2 : ∀ i, w.heap.size ≤ i → f2 i = lab 8 0 := fun i hi => by rw [hf2]; exact if_pos hi
  clear hf2
  have HA2 := Lib.hid ha2
  have ha3 : ∀ i, i < (w.setCell ⟨g, 3, none⟩ (.bool fa)).heap.size → f2 i = f i := fun i hi => ha2 i (by simpa using hi)
  have HT := Lib.hid (ht.sub (S' := fun g => f2 g = lab 8 0 ∧ g < w2.heap.size) (fun g h1 h2 => ⟨hb2 g (by simpa using h1), h2⟩))
  have hS2 := HSa.out.gl (f' := f2) (L := fun l => l = lab 14 0) (GL.ofRow hg (fun k hk => by injection hk with hk; subst hk; exact HRa.out.2.1)) ha3 (fun l hl => by subst hl; right; decide)
  have hR2 := HRa.out.step hr hg
  have HR2 := Lib.hid (show RdrL w2 f2 r tn p c tk s2 from ⟨hR2.1, by rw [ha2 r hrl]; exact hR2.2.1, fun a ha => ⟨by rw [ha3 _ (HRa.out.pw a ha)]; exact (hR2.2.2 a ha).1, (hR2.2.2 a ha).2⟩⟩)
  have HS2 := Lib.hid hS2
  have HG2 := Lib.hid (HGa.out.trans (gl_rd hg HRa.out.2.1) (fun _ _ => rfl))
  have hfg : f2 g = lab 9 0 := hS2.lg
  have HFG := Lib.hid hfg
  have HFO := Lib.hid (show f g ≠ 0 by rw [← ha2 g hgl, hfg]; decide)
  have d4 := hS2.blk.cell 4
  have d5 := hS2.blk.cell 5
  have d6 := hS2.blk.cell 6
  have d7 := hS2.blk.cell 7
  have d8 := hS2.blk.cell 8
  have d9 := hS2.blk.cell 9
  have d15 := hS2.blk.cell 15
  have d16 := hS2.after
  simp only [stC, List.getElem?_cons_zero, List.getElem?_cons_succ] at d4 d5 d6 d7 d8 d9 d15
  have e4 := hS2.blk.free 4
  have e5 := hS2.blk.free 5
  have e6 := hS2.blk.free 6
  have e7 := hS2.blk.free 7
  have e8 := hS2.blk.free 8
  have e9 := hS2.blk.free 9
  have e15 := hS2.blk.free 15
  have e16 := hS2.blk.free 16
  have hgl2 := hS2.lt
  have HSP := Lib.hid (condput hS2 HT.out at_)
  clear hr hg ht hS2 hR2 HC hz ha2 hb2 ha3 hfg c3 f3
  go_wp2_with fail
  go_end0
  refine ⟨rfl, ?_⟩
  rw [HX.out]
  obtain ⟨v', hv'⟩ := HSP.out
  have hRx := ((((((((HR2.out.set HFG.out 4 (.int .i64 k1)).set HFG.out 5 (.int .i64 co1)).set HFG.out 6 (.int .i64 rg1)).set HFG.out 7 (.int .u64 ad1)).set HFG.out 8 (.int .u64 va1)).set HFG.out 9 (.slice p1 l1 cp1)).set HFG.out 15 (.int .i64 at_)).set HFG.out 16 (.int .i64 4))
  have hGx := ((((((((HG2.out.set HFO.out 4 (.int .i64 k1)).set HFO.out 5 (.int .i64 co1)).set HFO.out 6 (.int .i64 rg1)).set HFO.out 7 (.int .u64 ad1)).set HFO.out 8 (.int .u64 va1)).set HFO.out 9 (.slice p1 l1 cp1)).set HFO.out 15 (.int .i64 at_)).set HFO.out 16 (.int .i64 4))
  exact ⟨f2, v', hv', hRx, HA2.out, hGx⟩
end Go.Proofs.YtcaifejfkpmeeaaGreat
