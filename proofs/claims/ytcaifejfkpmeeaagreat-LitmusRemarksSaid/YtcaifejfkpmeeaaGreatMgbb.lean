/- lex.First. -/
import Derived.Test.YtcaifejfkpmeeaaGreatMgac
import Derived.Test.YtcaifejfkpmeeaaGreatMgax
import Derived.Test.YtcaifejfkpmeeaaGreatMgay
import Derived.Deep.RegionLaw
namespace Go.Proofs.YtcaifejfkpmeeaaGreat
open Go.RowKit
set_option linter.unusedVariables false
set_option linter.unusedSimpArgs false

set_option maxRecDepth 100000 in
set_option maxHeartbeats 1600000 in
theorem last_any {w : World} {f : Nat → Nat} {B g n : Nat} {x : SrcA} {v : SrcV} (hS : ST w f B g n x v) :
    Calls Tryz.prog 36 #[.pointer (some ⟨g, 0, none⟩)] w fun e w' => ∃ q, e = .returned (.pointer q) ∧ w' = w := by
  cases h : x.cores.length with
  | zero => exact (last_none hS h).mono fun e w' hh => ⟨none, hh⟩
  | succ m =>
    obtain ⟨pT, cT, hvT, _⟩ := own_form hS.parts.cores.1
    cases pT with
    | none =>
      have hh := hS.parts.cores.1.2
      rw [hvT, h] at hh
      rcases hh with ⟨_, h2⟩ | ⟨_, _, _, h2, _⟩
      · omega
      · cases h2
    | some a =>
      have hh := hS.parts.cores.1.2
      rw [hvT, h] at hh
      rcases hh with ⟨_, h2⟩ | ⟨gc, cap, _, h2, _⟩
      · omega
      · injection h2 with e1 e2 e3
        injection e1 with e1
        subst e1; subst e3
        exact (last_some hS m h gc cT (by rw [hvT, h])).mono fun e w' hh => ⟨_, hh⟩
set_option maxRecDepth 100000 in
set_option maxHeartbeats 1600000 in
theorem reg_kind {w : World} {f : Nat → Nat} {B g n r tn : Nat} {p : Option Addr} {c : Nat} {tk : List Tk} {s : RS} {x : SrcA} {v : SrcV} (hS : ST w f B g n x v) (hR : RdrL w f r tn p c tk s) (hn : n < 19000) {tk1 ta : Int} {tt : ByteArray} (hP : peekR tk s = (tk1, tt, ta)) (hk : ¬ tk1 = 1) {j : Int} {ok : Bool} (hN : regNV (regN tt) = .tuple #[.int .i64 j, .bool ok]) :
    Calls Tryz.prog 30 #[.pointer (some ⟨g, 0, none⟩), .pointer (some ⟨r, 0, none⟩)] w (SomeST w f B g (n + 1) r tn p c tk (regR' tk x s)) := by
  have HX := Lib.hid (show regR' tk x s = (x, failR tk s 110) by unfold regR'; rw [if_neg]; simp [regOk, hP, hk])
  have HP := Lib.hid (show Calls Tryz.prog 41 #[.pointer (some ⟨r, 0, none⟩)] w fun e w' => e = .returned (.agg #[.int .i64 tk1, .string tt, .int .i64 ta]) ∧ Below w.heap.size w w' by have := peek_any w hR.1; rw [hP] at this; exact this)
  have HN := Lib.hid (fun w1 => show Calls Tryz.prog 50 #[.string tt] w1 fun e w' => e = .returned (.tuple #[.int .i64 j, .bool ok]) ∧ ∃ m, w' = w1.drewN m by have := numberOf_any tt w1; rw [hN] at this; exact this)
  have HS := Lib.hid hS
  have HR := Lib.hid hR
  clear hS hR hP hN
  go_enter Tryz.func30, Tryz.ntmps30
  go_wp2_with fail
  refine (HP.out).mono ?_
  rintro e w2 ⟨rfl, hb⟩
  have hz := hb.size
  have HB := Lib.hid (below_alloc hb (.cells #[.int .i64 tk1, .string tt, .int .i64 ta] 75))
  have HT2 := Lib.hid (show Blk (w2.alloc (.cells #[.int .i64 tk1, .string tt, .int .i64 ta] 75)) 75 w2.heap.size [.int .i64 tk1, .string tt, .int .i64 ta] from Blk.new w2 _ _)
  have HS2 := Lib.hid (HS.out.below HB.out)
  have HR2 := Lib.hid (HR.out.below HB.out)
  have HC2 := Lib.hid ((Acc.refl w f).below HB.out)
  clear hb HP
  go_wp2_with fail
  generalize w2.alloc (.cells #[.int .i64 tk1, .string tt, .int .i64 ta] 75) = w3 at *
  generalize w2.heap.size = h0 at *
  refine (HN.out _).mono ?_
  rintro e w' ⟨rfl, m, rfl⟩
  have HS3 := Lib.hid (show ST (w3.drewN m) f B g n x v from HS2.out.below (below_drewN (Below.refl _ _) m))
  have HR3 := Lib.hid (show RdrL (w3.drewN m) f r tn p c tk s from HR2.out.below (below_drewN (Below.refl _ _) m))
  have HC3 := Lib.hid (show Acc w f (w3.drewN m) f from HC2.out.below (below_drewN (Below.refl _ _) m))
  have HT3 := Lib.hid (HT2.out.dn m)
  clear HS2 HR2 HC2 HT2 HN
  generalize w3.drewN m = w4 at *
  go_wp2_with fail
  refine (last_any HS3.out).mono ?_
  rintro e w' ⟨q, rfl, rfl⟩
  have b0 := HT3.out.cell 0
  simp only [List.getElem?_cons_zero] at b0
  have hkb : (tk1 != 1) = true := bne_iff_ne.2 hk
  have hh0 := HT3.out.lt
  go_wp2_with fail
  refine (fail_any _ 110 HR3.out.1).mono ?_
  rintro e w9 ⟨rfl, hr, hg⟩
  have HS9 := Lib.hid ((HS3.out.rd hg HR3.out.2.1).mono (show n ≤ n + 1 by omega) (by omega))
  have HR9 := Lib.hid (HR3.out.step hr hg)
  have HC9 := Lib.hid (HC3.out.rd hg HR3.out.2.1)
  clear hr hg
  go_wp2_with fail
  go_end0
  rw [HX.out]
  exact SomeST.of HS9.out HR9.out HC9.out
set_option maxRecDepth 100000 in
set_option maxHeartbeats 1600000 in
theorem reg_name {w : World} {f : Nat → Nat} {B g n r tn : Nat} {p : Option Addr} {c : Nat} {tk : List Tk} {s : RS} {x : SrcA} {v : SrcV} (hS : ST w f B g n x v) (hR : RdrL w f r tn p c tk s) (hn : n < 19000) {ta : Int} {tt : ByteArray} (hP : peekR tk s = (1, tt, ta)) (hr : regN tt = none) {j : Int} (hN : regNV (regN tt) = .tuple #[.int .i64 j, .bool false]) :
    Calls Tryz.prog 30 #[.pointer (some ⟨g, 0, none⟩), .pointer (some ⟨r, 0, none⟩)] w (SomeST w f B g (n + 1) r tn p c tk (regR' tk x s)) := by
  have HX := Lib.hid (show regR' tk x s = (x, failR tk s 110) by unfold regR'; rw [if_neg]; simp [regOk, hP, hr])
  have HP := Lib.hid (show Calls Tryz.prog 41 #[.pointer (some ⟨r, 0, none⟩)] w fun e w' => e = .returned (.agg #[.int .i64 1, .string tt, .int .i64 ta]) ∧ Below w.heap.size w w' by have := peek_any w hR.1; rw [hP] at this; exact this)
  have HN := Lib.hid (fun w1 => show Calls Tryz.prog 50 #[.string tt] w1 fun e w' => e = .returned (.tuple #[.int .i64 j, .bool false]) ∧ ∃ m, w' = w1.drewN m by have := numberOf_any tt w1; rw [hN] at this; exact this)
  have HS := Lib.hid hS
  have HR := Lib.hid hR
  clear hS hR hP hN
  go_enter Tryz.func30, Tryz.ntmps30
  go_wp2_with fail
  refine (HP.out).mono ?_
  rintro e w2 ⟨rfl, hb⟩
  have hz := hb.size
  have HB := Lib.hid (below_alloc hb (.cells #[.int .i64 1, .string tt, .int .i64 ta] 75))
  have HT2 := Lib.hid (show Blk (w2.alloc (.cells #[.int .i64 1, .string tt, .int .i64 ta] 75)) 75 w2.heap.size [.int .i64 1, .string tt, .int .i64 ta] from Blk.new w2 _ _)
  have HS2 := Lib.hid (HS.out.below HB.out)
  have HR2 := Lib.hid (HR.out.below HB.out)
  have HC2 := Lib.hid ((Acc.refl w f).below HB.out)
  clear hb HP
  go_wp2_with fail
  generalize w2.alloc (.cells #[.int .i64 1, .string tt, .int .i64 ta] 75) = w3 at *
  generalize w2.heap.size = h0 at *
  refine (HN.out _).mono ?_
  rintro e w' ⟨rfl, m, rfl⟩
  have HS3 := Lib.hid (show ST (w3.drewN m) f B g n x v from HS2.out.below (below_drewN (Below.refl _ _) m))
  have HR3 := Lib.hid (show RdrL (w3.drewN m) f r tn p c tk s from HR2.out.below (below_drewN (Below.refl _ _) m))
  have HC3 := Lib.hid (show Acc w f (w3.drewN m) f from HC2.out.below (below_drewN (Below.refl _ _) m))
  have HT3 := Lib.hid (HT2.out.dn m)
  clear HS2 HR2 HC2 HT2 HN
  generalize w3.drewN m = w4 at *
  go_wp2_with fail
  refine (last_any HS3.out).mono ?_
  rintro e w' ⟨q, rfl, rfl⟩
  have b0 := HT3.out.cell 0
  simp only [List.getElem?_cons_zero] at b0
  have hh0 := HT3.out.lt
  go_wp2_with fail
  refine (fail_any _ 110 HR3.out.1).mono ?_
  rintro e w9 ⟨rfl, hr, hg⟩
  have HS9 := Lib.hid ((HS3.out.rd hg HR3.out.2.1).mono (show n ≤ n + 1 by omega) (by omega))
  have HR9 := Lib.hid (HR3.out.step hr hg)
  have HC9 := Lib.hid (HC3.out.rd hg HR3.out.2.1)
  clear hr hg
  go_wp2_with fail
  go_end0
  rw [HX.out]
  exact SomeST.of HS9.out HR9.out HC9.out
set_option maxRecDepth 100000 in
set_option maxHeartbeats 1600000 in
theorem reg_zr {w : World} {f : Nat → Nat} {B g n r tn : Nat} {p : Option Addr} {c : Nat} {tk : List Tk} {s : RS} {x : SrcA} {v : SrcV} (hS : ST w f B g n x v) (hR : RdrL w f r tn p c tk s) (hn : n < 19000) {ta : Int} {tt : ByteArray} (hP : peekR tk s = (1, tt, ta)) (hr : regN tt = some 31) (hN : regNV (regN tt) = .tuple #[.int .i64 31, .bool true]) :
    Calls Tryz.prog 30 #[.pointer (some ⟨g, 0, none⟩), .pointer (some ⟨r, 0, none⟩)] w (SomeST w f B g (n + 1) r tn p c tk (regR' tk x s)) := by
  have HX := Lib.hid (show regR' tk x s = (x, failR tk s 110) by unfold regR'; rw [if_neg]; simp [regOk, hP, hr])
  have HP := Lib.hid (show Calls Tryz.prog 41 #[.pointer (some ⟨r, 0, none⟩)] w fun e w' => e = .returned (.agg #[.int .i64 1, .string tt, .int .i64 ta]) ∧ Below w.heap.size w w' by have := peek_any w hR.1; rw [hP] at this; exact this)
  have HN := Lib.hid (fun w1 => show Calls Tryz.prog 50 #[.string tt] w1 fun e w' => e = .returned (.tuple #[.int .i64 31, .bool true]) ∧ ∃ m, w' = w1.drewN m by have := numberOf_any tt w1; rw [hN] at this; exact this)
  have HS := Lib.hid hS
  have HR := Lib.hid hR
  clear hS hR hP hN
  go_enter Tryz.func30, Tryz.ntmps30
  go_wp2_with fail
  refine (HP.out).mono ?_
  rintro e w2 ⟨rfl, hb⟩
  have hz := hb.size
  have HB := Lib.hid (below_alloc hb (.cells #[.int .i64 1, .string tt, .int .i64 ta] 75))
  have HT2 := Lib.hid (show Blk (w2.alloc (.cells #[.int .i64 1, .string tt, .int .i64 ta] 75)) 75 w2.heap.size [.int .i64 1, .string tt, .int .i64 ta] from Blk.new w2 _ _)
  have HS2 := Lib.hid (HS.out.below HB.out)
  have HR2 := Lib.hid (HR.out.below HB.out)
  have HC2 := Lib.hid ((Acc.refl w f).below HB.out)
  clear hb HP
  go_wp2_with fail
  generalize w2.alloc (.cells #[.int .i64 1, .string tt, .int .i64 ta] 75) = w3 at *
  generalize w2.heap.size = h0 at *
  refine (HN.out _).mono ?_
  rintro e w' ⟨rfl, m, rfl⟩
  have HS3 := Lib.hid (show ST (w3.drewN m) f B g n x v from HS2.out.below (below_drewN (Below.refl _ _) m))
  have HR3 := Lib.hid (show RdrL (w3.drewN m) f r tn p c tk s from HR2.out.below (below_drewN (Below.refl _ _) m))
  have HC3 := Lib.hid (show Acc w f (w3.drewN m) f from HC2.out.below (below_drewN (Below.refl _ _) m))
  have HT3 := Lib.hid (HT2.out.dn m)
  clear HS2 HR2 HC2 HT2 HN
  generalize w3.drewN m = w4 at *
  go_wp2_with fail
  refine (last_any HS3.out).mono ?_
  rintro e w' ⟨q, rfl, rfl⟩
  have b0 := HT3.out.cell 0
  simp only [List.getElem?_cons_zero] at b0
  have hh0 := HT3.out.lt
  go_wp2_with fail
  refine (fail_any _ 110 HR3.out.1).mono ?_
  rintro e w9 ⟨rfl, hr, hg⟩
  have HS9 := Lib.hid ((HS3.out.rd hg HR3.out.2.1).mono (show n ≤ n + 1 by omega) (by omega))
  have HR9 := Lib.hid (HR3.out.step hr hg)
  have HC9 := Lib.hid (HC3.out.rd hg HR3.out.2.1)
  clear hr hg
  go_wp2_with fail
  go_end0
  rw [HX.out]
  exact SomeST.of HS9.out HR9.out HC9.out
set_option maxRecDepth 100000 in
set_option maxHeartbeats 1600000 in
theorem reg_empty {w : World} {f : Nat → Nat} {B g n r tn : Nat} {p : Option Addr} {c : Nat} {tk : List Tk} {s : RS} {x : SrcA} {v : SrcV} (hS : ST w f B g n x v) (hR : RdrL w f r tn p c tk s) (hn : n < 19000) {ta : Int} {tt : ByteArray} (hP : peekR tk s = (1, tt, ta)) {j : Nat} (hr : regN tt = some j) (hj : j < 31) (hN : regNV (regN tt) = .tuple #[.int .i64 (j : Nat), .bool true]) (hz0 : x.cores.length = 0) :
    Calls Tryz.prog 30 #[.pointer (some ⟨g, 0, none⟩), .pointer (some ⟨r, 0, none⟩)] w (SomeST w f B g (n + 1) r tn p c tk (regR' tk x s)) := by
  have HX := Lib.hid (show regR' tk x s = (x, failR tk s 110) by unfold regR'; rw [if_neg]; simp [regOk, hP, hr, List.length_eq_zero_iff.1 hz0])
  have HP := Lib.hid (show Calls Tryz.prog 41 #[.pointer (some ⟨r, 0, none⟩)] w fun e w' => e = .returned (.agg #[.int .i64 1, .string tt, .int .i64 ta]) ∧ Below w.heap.size w w' by have := peek_any w hR.1; rw [hP] at this; exact this)
  have HN := Lib.hid (fun w1 => show Calls Tryz.prog 50 #[.string tt] w1 fun e w' => e = .returned (.tuple #[.int .i64 (j : Nat), .bool true]) ∧ ∃ m, w' = w1.drewN m by have := numberOf_any tt w1; rw [hN] at this; exact this)
  have HS := Lib.hid hS
  have HR := Lib.hid hR
  clear hS hR hP hN
  go_enter Tryz.func30, Tryz.ntmps30
  go_wp2_with fail
  refine (HP.out).mono ?_
  rintro e w2 ⟨rfl, hb⟩
  have hz := hb.size
  have HB := Lib.hid (below_alloc hb (.cells #[.int .i64 1, .string tt, .int .i64 ta] 75))
  have HT2 := Lib.hid (show Blk (w2.alloc (.cells #[.int .i64 1, .string tt, .int .i64 ta] 75)) 75 w2.heap.size [.int .i64 1, .string tt, .int .i64 ta] from Blk.new w2 _ _)
  have HS2 := Lib.hid (HS.out.below HB.out)
  have HR2 := Lib.hid (HR.out.below HB.out)
  have HC2 := Lib.hid ((Acc.refl w f).below HB.out)
  clear hb HP
  go_wp2_with fail
  generalize w2.alloc (.cells #[.int .i64 1, .string tt, .int .i64 ta] 75) = w3 at *
  generalize w2.heap.size = h0 at *
  refine (HN.out _).mono ?_
  rintro e w' ⟨rfl, m, rfl⟩
  have HS3 := Lib.hid (show ST (w3.drewN m) f B g n x v from HS2.out.below (below_drewN (Below.refl _ _) m))
  have HR3 := Lib.hid (show RdrL (w3.drewN m) f r tn p c tk s from HR2.out.below (below_drewN (Below.refl _ _) m))
  have HC3 := Lib.hid (show Acc w f (w3.drewN m) f from HC2.out.below (below_drewN (Below.refl _ _) m))
  have HT3 := Lib.hid (HT2.out.dn m)
  clear HS2 HR2 HC2 HT2 HN
  generalize w3.drewN m = w4 at *
  go_wp2_with fail
  have hjb : (((j : Nat) : Int) == 31) = false := by rw [beq_eq_false_iff_ne]; omega
  refine (last_none HS3.out hz0).mono ?_
  rintro e w' ⟨rfl, rfl⟩
  have b0 := HT3.out.cell 0
  simp only [List.getElem?_cons_zero] at b0
  have hh0 := HT3.out.lt
  go_wp2_with fail
  refine (fail_any _ 110 HR3.out.1).mono ?_
  rintro e w9 ⟨rfl, hr, hg⟩
  have HS9 := Lib.hid ((HS3.out.rd hg HR3.out.2.1).mono (show n ≤ n + 1 by omega) (by omega))
  have HR9 := Lib.hid (HR3.out.step hr hg)
  have HC9 := Lib.hid (HC3.out.rd hg HR3.out.2.1)
  clear hr hg
  go_wp2_with fail
  go_end0
  rw [HX.out]
  exact SomeST.of HS9.out HR9.out HC9.out
set_option maxRecDepth 100000 in
set_option maxHeartbeats 1600000 in
theorem reg_code {w : World} {f : Nat → Nat} {B g n r tn : Nat} {p : Option Addr} {c : Nat} {tk : List Tk} {s : RS} {x : SrcA} {v : SrcV} (hS : ST w f B g n x v) (hR : RdrL w f r tn p c tk s) (hn : n < 19000) {ta : Int} {tt : ByteArray} (hP : peekR tk s = (1, tt, ta)) {j : Nat} (hr : regN tt = some j) (hj : j < 31) (hN : regNV (regN tt) = .tuple #[.int .i64 (j : Nat), .bool true]) {l : List CoreA} {cc : CoreA} (hx : x.cores = l ++ [cc]) (hc : 0 < cc.code.length) :
    Calls Tryz.prog 30 #[.pointer (some ⟨g, 0, none⟩), .pointer (some ⟨r, 0, none⟩)] w (SomeST w f B g (n + 1) r tn p c tk (regR' tk x s)) := by
  have hlen : x.cores.length = l.length + 1 := by rw [hx]; simp
  obtain ⟨vl, cv, gc, cap, gr, capr, pc, capc, ph, caph, hvx, hvo, hvr, hvc, hvh⟩ := hS.lastcore hx
  have HX := Lib.hid (show regR' tk x s = (x, failR tk s 110) by unfold regR'; rw [if_neg]; simp [regOk, hP, hr, hx, List.isEmpty_iff, List.ne_nil_of_length_pos hc])
  have HP := Lib.hid (show Calls Tryz.prog 41 #[.pointer (some ⟨r, 0, none⟩)] w fun e w' => e = .returned (.agg #[.int .i64 1, .string tt, .int .i64 ta]) ∧ Below w.heap.size w w' by have := peek_any w hR.1; rw [hP] at this; exact this)
  have HN := Lib.hid (fun w1 => show Calls Tryz.prog 50 #[.string tt] w1 fun e w' => e = .returned (.tuple #[.int .i64 (j : Nat), .bool true]) ∧ ∃ m, w' = w1.drewN m by have := numberOf_any tt w1; rw [hN] at this; exact this)
  have HS := Lib.hid hS
  have HR := Lib.hid hR
  clear hS hR hP hN
  go_enter Tryz.func30, Tryz.ntmps30
  go_wp2_with fail
  refine (HP.out).mono ?_
  rintro e w2 ⟨rfl, hb⟩
  have hz := hb.size
  have HB := Lib.hid (below_alloc hb (.cells #[.int .i64 1, .string tt, .int .i64 ta] 75))
  have HT2 := Lib.hid (show Blk (w2.alloc (.cells #[.int .i64 1, .string tt, .int .i64 ta] 75)) 75 w2.heap.size [.int .i64 1, .string tt, .int .i64 ta] from Blk.new w2 _ _)
  have HS2 := Lib.hid (HS.out.below HB.out)
  have HR2 := Lib.hid (HR.out.below HB.out)
  have HC2 := Lib.hid ((Acc.refl w f).below HB.out)
  clear hb HP
  go_wp2_with fail
  generalize w2.alloc (.cells #[.int .i64 1, .string tt, .int .i64 ta] 75) = w3 at *
  generalize w2.heap.size = h0 at *
  refine (HN.out _).mono ?_
  rintro e w' ⟨rfl, m, rfl⟩
  have HS3 := Lib.hid (show ST (w3.drewN m) f B g n x v from HS2.out.below (below_drewN (Below.refl _ _) m))
  have HR3 := Lib.hid (show RdrL (w3.drewN m) f r tn p c tk s from HR2.out.below (below_drewN (Below.refl _ _) m))
  have HC3 := Lib.hid (show Acc w f (w3.drewN m) f from HC2.out.below (below_drewN (Below.refl _ _) m))
  have HT3 := Lib.hid (HT2.out.dn m)
  clear HS2 HR2 HC2 HT2 HN
  generalize w3.drewN m = w4 at *
  go_wp2_with fail
  have hjb : (((j : Nat) : Int) == 31) = false := by rw [beq_eq_false_iff_ne]; omega
  have hcb : decide ((0 : Int) < (cc.code.length : Int)) = true := decide_eq_true (by omega)
  refine (last_some HS3.out l.length hlen gc cap hvo).mono ?_
  rintro e w' ⟨rfl, rfl⟩
  have b0 := HT3.out.cell 0
  simp only [List.getElem?_cons_zero] at b0
  have q3 := HS3.out.coreCell hx hvx hvo 3 (by decide)
  have q0 := HS3.out.coreCell hx hvx hvo 0 (by decide)
  have c16 := HS3.out.after
  have hgl := HS3.out.lt
  simp only [coreC, List.getElem?_cons_zero, List.getElem?_cons_succ, hvc, hvr, Nat.add_zero] at q3 q0
  obtain ⟨q31, q32, q33⟩ := q3
  obtain ⟨q01, q02, _⟩ := q0
  have hh0 := HT3.out.lt
  go_wp2_with fail
  refine (fail_any _ 110 HR3.out.1).mono ?_
  rintro e w9 ⟨rfl, hr, hg⟩
  have HS9 := Lib.hid ((HS3.out.rd hg HR3.out.2.1).mono (show n ≤ n + 1 by omega) (by omega))
  have HR9 := Lib.hid (HR3.out.step hr hg)
  have HC9 := Lib.hid (HC3.out.rd hg HR3.out.2.1)
  clear hr hg
  go_wp2_with fail
  go_end0
  rw [HX.out]
  exact SomeST.of HS9.out HR9.out HC9.out
set_option maxRecDepth 100000 in
set_option maxHeartbeats 1600000 in
theorem reg_after {w : World} {f : Nat → Nat} {B g n r tn : Nat} {p : Option Addr} {c : Nat} {tk : List Tk} {s : RS} {x : SrcA} {v : SrcV} (hS : ST w f B g n x v) (hR : RdrL w f r tn p c tk s) (hn : n < 19000) {ta : Int} {tt : ByteArray} (hP : peekR tk s = (1, tt, ta)) {j : Nat} (hr : regN tt = some j) (hj : j < 31) (hN : regNV (regN tt) = .tuple #[.int .i64 (j : Nat), .bool true]) {l : List CoreA} {cc : CoreA} (hx : x.cores = l ++ [cc]) (hc : cc.code = []) (ha : ¬ x.after = 2) :
    Calls Tryz.prog 30 #[.pointer (some ⟨g, 0, none⟩), .pointer (some ⟨r, 0, none⟩)] w (SomeST w f B g (n + 1) r tn p c tk (regR' tk x s)) := by
  have hlen : x.cores.length = l.length + 1 := by rw [hx]; simp
  obtain ⟨vl, cv, gc, cap, gr, capr, pc, capc, ph, caph, hvx, hvo, hvr, hvc, hvh⟩ := hS.lastcore hx
  have HX := Lib.hid (show regR' tk x s = (x, failR tk s 110) by unfold regR'; rw [if_neg]; simp [regOk, hP, ha])
  have HP := Lib.hid (show Calls Tryz.prog 41 #[.pointer (some ⟨r, 0, none⟩)] w fun e w' => e = .returned (.agg #[.int .i64 1, .string tt, .int .i64 ta]) ∧ Below w.heap.size w w' by have := peek_any w hR.1; rw [hP] at this; exact this)
  have HN := Lib.hid (fun w1 => show Calls Tryz.prog 50 #[.string tt] w1 fun e w' => e = .returned (.tuple #[.int .i64 (j : Nat), .bool true]) ∧ ∃ m, w' = w1.drewN m by have := numberOf_any tt w1; rw [hN] at this; exact this)
  have HS := Lib.hid hS
  have HR := Lib.hid hR
  clear hS hR hP hN
  go_enter Tryz.func30, Tryz.ntmps30
  go_wp2_with fail
  refine (HP.out).mono ?_
  rintro e w2 ⟨rfl, hb⟩
  have hz := hb.size
  have HB := Lib.hid (below_alloc hb (.cells #[.int .i64 1, .string tt, .int .i64 ta] 75))
  have HT2 := Lib.hid (show Blk (w2.alloc (.cells #[.int .i64 1, .string tt, .int .i64 ta] 75)) 75 w2.heap.size [.int .i64 1, .string tt, .int .i64 ta] from Blk.new w2 _ _)
  have HS2 := Lib.hid (HS.out.below HB.out)
  have HR2 := Lib.hid (HR.out.below HB.out)
  have HC2 := Lib.hid ((Acc.refl w f).below HB.out)
  clear hb HP
  go_wp2_with fail
  generalize w2.alloc (.cells #[.int .i64 1, .string tt, .int .i64 ta] 75) = w3 at *
  generalize w2.heap.size = h0 at *
  refine (HN.out _).mono ?_
  rintro e w' ⟨rfl, m, rfl⟩
  have HS3 := Lib.hid (show ST (w3.drewN m) f B g n x v from HS2.out.below (below_drewN (Below.refl _ _) m))
  have HR3 := Lib.hid (show RdrL (w3.drewN m) f r tn p c tk s from HR2.out.below (below_drewN (Below.refl _ _) m))
  have HC3 := Lib.hid (show Acc w f (w3.drewN m) f from HC2.out.below (below_drewN (Below.refl _ _) m))
  have HT3 := Lib.hid (HT2.out.dn m)
  clear HS2 HR2 HC2 HT2 HN
  generalize w3.drewN m = w4 at *
  go_wp2_with fail
  have hjb : (((j : Nat) : Int) == 31) = false := by rw [beq_eq_false_iff_ne]; omega
  have hcb : decide ((0 : Int) < (cc.code.length : Int)) = false := by rw [hc]; rfl
  have hab : ((x.after : Int) != 2) = true := bne_iff_ne.2 (by omega)
  refine (last_some HS3.out l.length hlen gc cap hvo).mono ?_
  rintro e w' ⟨rfl, rfl⟩
  have b0 := HT3.out.cell 0
  simp only [List.getElem?_cons_zero] at b0
  have q3 := HS3.out.coreCell hx hvx hvo 3 (by decide)
  have q0 := HS3.out.coreCell hx hvx hvo 0 (by decide)
  have c16 := HS3.out.after
  have hgl := HS3.out.lt
  simp only [coreC, List.getElem?_cons_zero, List.getElem?_cons_succ, hvc, hvr, Nat.add_zero] at q3 q0
  obtain ⟨q31, q32, q33⟩ := q3
  obtain ⟨q01, q02, _⟩ := q0
  have hh0 := HT3.out.lt
  go_wp2_with fail
  refine (fail_any _ 110 HR3.out.1).mono ?_
  rintro e w9 ⟨rfl, hr, hg⟩
  have HS9 := Lib.hid ((HS3.out.rd hg HR3.out.2.1).mono (show n ≤ n + 1 by omega) (by omega))
  have HR9 := Lib.hid (HR3.out.step hr hg)
  have HC9 := Lib.hid (HC3.out.rd hg HR3.out.2.1)
  clear hr hg
  go_wp2_with fail
  go_end0
  rw [HX.out]
  exact SomeST.of HS9.out HR9.out HC9.out
set_option maxRecDepth 100000 in
set_option maxHeartbeats 1600000 in
theorem reg_ok {w : World} {f : Nat → Nat} {B g n r tn : Nat} {p : Option Addr} {c : Nat} {tk : List Tk} {s : RS} {x : SrcA} {v : SrcV} (hS : ST w f B g n x v) (hR : RdrL w f r tn p c tk s) (hn : n < 19000) {ta : Int} {tt : ByteArray} (hP : peekR tk s = (1, tt, ta)) {j : Nat} (hr : regN tt = some j) (hj : j < 31) (hN : regNV (regN tt) = .tuple #[.int .i64 (j : Nat), .bool true]) {l : List CoreA} {cc : CoreA} (hx : x.cores = l ++ [cc]) (hc : cc.code = []) (ha : x.after = 2) :
    Calls Tryz.prog 30 #[.pointer (some ⟨g, 0, none⟩), .pointer (some ⟨r, 0, none⟩)] w (SomeST w f B g (n + 1) r tn p c tk (regR' tk x s)) := by
  have hlen : x.cores.length = l.length + 1 := by rw [hx]; simp
  obtain ⟨vl, cv, gc, cap, gr, capr, pc, capc, ph, caph, hvx, hvo, hvr, hvc, hvh⟩ := hS.lastcore hx
  have HX := Lib.hid (show regR' tk x s = ({ x with cores := l ++ [{ cc with regs := cc.regs.set j (litV tk (mustR tk (nextR tk s) 3 ⟨#[61]⟩)).1 }] }, (litV tk (mustR tk (nextR tk s) 3 ⟨#[61]⟩)).2) by unfold regR'; rw [if_pos (by simp [regOk, hP, hr, hx, hc, ha, show ¬ j = 31 by omega])]; simp [lastF, hx, hP, hr])
  have HP := Lib.hid (show Calls Tryz.prog 41 #[.pointer (some ⟨r, 0, none⟩)] w fun e w' => e = .returned (.agg #[.int .i64 1, .string tt, .int .i64 ta]) ∧ Below w.heap.size w w' by have := peek_any w hR.1; rw [hP] at this; exact this)
  have HN := Lib.hid (fun w1 => show Calls Tryz.prog 50 #[.string tt] w1 fun e w' => e = .returned (.tuple #[.int .i64 (j : Nat), .bool true]) ∧ ∃ m, w' = w1.drewN m by have := numberOf_any tt w1; rw [hN] at this; exact this)
  have HS := Lib.hid hS
  have HR := Lib.hid hR
  clear hS hR hP hN
  go_enter Tryz.func30, Tryz.ntmps30
  go_wp2_with fail
  refine (HP.out).mono ?_
  rintro e w2 ⟨rfl, hb⟩
  have hz := hb.size
  have HB := Lib.hid (below_alloc hb (.cells #[.int .i64 1, .string tt, .int .i64 ta] 75))
  have HT2 := Lib.hid (show Blk (w2.alloc (.cells #[.int .i64 1, .string tt, .int .i64 ta] 75)) 75 w2.heap.size [.int .i64 1, .string tt, .int .i64 ta] from Blk.new w2 _ _)
  have HS2 := Lib.hid (HS.out.below HB.out)
  have HR2 := Lib.hid (HR.out.below HB.out)
  have HC2 := Lib.hid ((Acc.refl w f).below HB.out)
  clear hb HP
  go_wp2_with fail
  generalize w2.alloc (.cells #[.int .i64 1, .string tt, .int .i64 ta] 75) = w3 at *
  generalize w2.heap.size = h0 at *
  refine (HN.out _).mono ?_
  rintro e w' ⟨rfl, m, rfl⟩
  have HS3 := Lib.hid (show ST (w3.drewN m) f B g n x v from HS2.out.below (below_drewN (Below.refl _ _) m))
  have HR3 := Lib.hid (show RdrL (w3.drewN m) f r tn p c tk s from HR2.out.below (below_drewN (Below.refl _ _) m))
  have HC3 := Lib.hid (show Acc w f (w3.drewN m) f from HC2.out.below (below_drewN (Below.refl _ _) m))
  have HT3 := Lib.hid (HT2.out.dn m)
  clear HS2 HR2 HC2 HT2 HN
  generalize w3.drewN m = w4 at *
  go_wp2_with fail
  have hjb : (((j : Nat) : Int) == 31) = false := by rw [beq_eq_false_iff_ne]; omega
  have hcb : decide ((0 : Int) < (cc.code.length : Int)) = false := by rw [hc]; rfl
  have hab : ((x.after : Int) != 2) = false := by rw [ha]; rfl
  refine (last_some HS3.out l.length hlen gc cap hvo).mono ?_
  rintro e w' ⟨rfl, rfl⟩
  have b0 := HT3.out.cell 0
  simp only [List.getElem?_cons_zero] at b0
  have q3 := HS3.out.coreCell hx hvx hvo 3 (by decide)
  have q0 := HS3.out.coreCell hx hvx hvo 0 (by decide)
  have c16 := HS3.out.after
  have hgl := HS3.out.lt
  simp only [coreC, List.getElem?_cons_zero, List.getElem?_cons_succ, hvc, hvr, Nat.add_zero] at q3 q0
  obtain ⟨q31, q32, q33⟩ := q3
  obtain ⟨q01, q02, _⟩ := q0
  have hh0 := HT3.out.lt
  go_wp2_with fail
  refine (next_any _ HR3.out.1).mono ?_
  rintro e w5 ⟨rfl, hr, hg⟩
  have HS5 := Lib.hid (HS3.out.rd hg HR3.out.2.1)
  have HR5 := Lib.hid (HR3.out.step hr hg)
  have HC5 := Lib.hid (HC3.out.rd hg HR3.out.2.1)
  clear hr hg HS3 HR3 HC3
  clear HT3 b0 q31 q32 q01 q02 c16
  go_wp2_with fail
  refine (must_any _ 3 ⟨#[61]⟩ HR5.out.1).mono ?_
  rintro e w6 ⟨rfl, hr, hg⟩
  have HS6 := Lib.hid (HS5.out.rd hg HR5.out.2.1)
  have HR6 := Lib.hid (HR5.out.step hr hg)
  have HC6 := Lib.hid (HC5.out.rd hg HR5.out.2.1)
  clear hr hg HS5 HR5 HC5
  generalize mustR tk (nextR tk s) 3 ⟨#[61]⟩ = s6 at *
  have HV := Lib.hid (litv_any w6.drew HR6.out.pw (RdrL.below HR6.out (Below.refl _ w6).drew).1)
  generalize litV tk s6 = y at *
  obtain ⟨u, s7⟩ := y
  simp only at HX HV
  have q0 := HS6.out.coreCell hx hvx hvo 0 (by decide)
  simp only [coreC, List.getElem?_cons_zero, hvr, Nat.add_zero] at q0
  obtain ⟨q01, q02, q03⟩ := q0
  have HSD := Lib.hid (show ST w6.drew f B g n x v from ST.below HS6.out (Below.refl _ w6).drew)
  have HRL := Lib.hid (show RdrL w6.drew f r tn p c tk s6 from RdrL.below HR6.out (Below.refl _ w6).drew)
  go_wp2_with fail
  have hjI : ((j : Nat) : Int) < 31 := by omega
  go_region_law? ((go_simp; go_at_call 46; refine HV.out.mono ?_; rintro e w7 ⟨rfl, hr7, hg7⟩; have HS7 := Lib.hid (ST.rd HSD.out hg7 HRL.out.2.1); have HR7 := Lib.hid (RdrL.step HRL.out hr7 hg7); have q0 := HS7.out.coreCell hx hvx hvo 0 (by decide); simp only [coreC, List.getElem?_cons_zero, hvr, Nat.add_zero] at q0; obtain ⟨q01, q02, q03⟩ := q0; have k0 := HS7.out.regCell hx hvx hvr hj; obtain ⟨⟨u0, k01⟩, k02, k03⟩ := k0))
  all_goals
    have HC7 := Lib.hid ((HC6.out.below (Below.refl _ w6).drew).rd hg7 HRL.out.2.1)
    go_end0
    rw [HX.out]
    obtain ⟨hSz, hlr⟩ := HS7.out.setreg hx hvx hvr hj u
    exact SomeST.of (hSz.mono (show n ≤ n + 1 by omega) (by omega)) (HR7.out.gl (L := fun k => k = lab 10 l.length) ((GL.refl f _ w7).set hlr j (.int .u64 (u : Nat))) (fun _ _ => rfl) (by unfold lab; omega) (by unfold lab; omega)) (HC7.out.set (by rw [hlr]; unfold lab; omega) j (.int .u64 (u : Nat)))
theorem reg_any {w : World} {f : Nat → Nat} {B g n r tn : Nat} {p : Option Addr} {c : Nat} {tk : List Tk} {s : RS} {x : SrcA} {v : SrcV} (hS : ST w f B g n x v) (hR : RdrL w f r tn p c tk s) (hn : n < 19000) :
    Calls Tryz.prog 30 #[.pointer (some ⟨g, 0, none⟩), .pointer (some ⟨r, 0, none⟩)] w (SomeST w f B g (n + 1) r tn p c tk (regR' tk x s)) := by
  rcases hP : peekR tk s with ⟨tk1, tt, ta⟩
  by_cases hk : tk1 = 1
  · subst hk
    cases hr : regN tt with
    | none => exact reg_name hS hR hn hP hr (by rw [hr]; rfl)
    | some j =>
      have hj := regN_lt hr
      by_cases h31 : j = 31
      · subst h31; exact reg_zr hS hR hn hP hr (by rw [hr]; rfl)
      · by_cases h0 : x.cores.length = 0
        · exact reg_empty hS hR hn hP hr (by omega) (by rw [hr]; rfl) h0
        · obtain ⟨l, cc, hx, _⟩ := last_split x.cores (x.cores.length - 1) (by omega)
          by_cases hc : cc.code = []
          · by_cases ha : x.after = 2
            · exact reg_ok hS hR hn hP hr (by omega) (by rw [hr]; rfl) hx hc ha
            · exact reg_after hS hR hn hP hr (by omega) (by rw [hr]; rfl) hx hc ha
          · exact reg_code hS hR hn hP hr (by omega) (by rw [hr]; rfl) hx (List.length_pos_iff.2 hc)
  · rcases hN : regN tt with _ | j
    · exact reg_kind hS hR hn hP hk (j := 0) (ok := false) (by rw [hN]; rfl)
    · exact reg_kind hS hR hn hP hk (j := (j : Nat)) (ok := true) (by rw [hN]; rfl)
end Go.Proofs.YtcaifejfkpmeeaaGreat
namespace Go.Proofs.YtcaifejfkpmeeaaGreat
open Go.RowKit
set_option linter.unusedVariables false
set_option linter.unusedSimpArgs false

set_option maxHeartbeats 1600000 in
theorem first_any (t : ByteArray) (at_ : Int) (w : World) (hs : t.size ≤ 140737488351232) :
    Calls Tryz.prog 20 #[.agg #[.string t, .int .i64 at_]] w fun e w' => e = .returned (.string (t.extract 0 (wordE t 0))) ∧ Below w.heap.size w w' := by
  have HB := Lib.hid (show Blk (w.alloc (.cells #[.string t, .int .i64 at_] 60)) 60 w.heap.size [.string t, .int .i64 at_] from Blk.new _ _ _)
  have HW := Lib.hid (show Below w.heap.size w (w.alloc (.cells #[.string t, .int .i64 at_] 60)) from below_alloc (Below.refl _ _) _)
  go_enter Tryz.func20, Tryz.ntmps20
  go_wp2_with fail
  obtain ⟨w1, hw1⟩ : ∃ w1, w1 = w.alloc (.cells #[.string t, .int .i64 at_] 60) := ⟨_, rfl⟩
  rw [← hw1] at HB HW ⊢
  clear hw1
  have hc := HB.out.cell 0
  go_loop [3] (fun i => ∃ k : Nat, k ≤ t.size ∧ i = .int .i64 k ∧ scan (nonLet t) t.size k = wordE t 0) (fun i => t.size - (intOf i).toNat)
  case atStart => exact ⟨0, by omega, rfl, rfl⟩
  case round =>
    obtain ⟨k, hk, rfl, hsc⟩ := hrel
    have HS := Lib.hid hsc
    clear hsc
    by_cases hlt : k < t.size
    · have HB := Lib.hid (bt_eq hlt)
      cases hl : letterB (t[k].toNat : Int)
      · have HE := Lib.hid (show wordE t 0 = k from by rw [← HS.out]; exact scan_hit hlt (by unfold nonLet; rw [HB.out, hl]; rfl))
        go_wp2_with (go_at_call 35; refine (letter_any _ _).mono ?_; rintro e w' ⟨rfl, rfl⟩)
        go_ret
        exact ⟨by rw [HE.out]; rfl, HW.out⟩
      · have HS2 := Lib.hid (show scan (nonLet t) t.size (k + 1) = wordE t 0 from by rw [← HS.out]; exact (scan_miss hlt (by unfold nonLet; rw [HB.out, hl]; rfl)).symm)
        go_wp2_with (go_at_call 35; refine (letter_any _ _).mono ?_; rintro e w' ⟨rfl, rfl⟩)
        go_round
        case rel => exact ⟨k + 1, by omega, by go_num, HS2.out⟩
        case measure => simp [intOf]; omega
    · obtain rfl : k = t.size := by omega
      have HE := Lib.hid (show wordE t 0 = t.size from by rw [← HS.out]; exact scan_stop (by omega))
      go_wp2_with (go_at_call 35; refine (letter_any _ _).mono ?_; rintro e w' ⟨rfl, rfl⟩)
      go_ret
      exact ⟨by rw [HE.out]; simp, HW.out⟩
end Go.Proofs.YtcaifejfkpmeeaaGreat
