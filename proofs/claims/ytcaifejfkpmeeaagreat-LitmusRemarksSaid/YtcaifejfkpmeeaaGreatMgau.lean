/- litmus.flags, litmus.value: a number or a descriptor. -/
import Derived.Test.YtcaifejfkpmeeaaGreatMgas
import Derived.Test.YtcaifejfkpmeeaaGreatMgat
namespace Go.Proofs.YtcaifejfkpmeeaaGreat
open Go.RowKit
set_option linter.unusedVariables false
set_option linter.unusedSimpArgs false

theorem wis_any {r n : Nat} {p : Option Addr} {c : Nat} {tk : List Tk} {s : RS} (w : World) (t : ByteArray) (h : RdrAt w r n p c tk s) :
    Calls Tryz.prog 49 #[.pointer (some ⟨r, 0, none⟩), .int .i64 1, .string t] w fun e w' => e = .returned (.bool (wIsR tk s t).1) ∧ RdrAt w' r n p c tk (wIsR tk s t).2 ∧ w.grownBy w' (some r) := is_any w 1 t h
theorem grown_at {w w' : World} {row : Option Nat} {g : Nat} (h : w.grownBy w' row) (hg : w.heap.size ≤ g) (j : Nat) (v : Value) : w.grownBy (w'.setCell ⟨g, j, none⟩ v) row :=
  ⟨h.os, h.tape, h.output, by simpa using h.size, fun k hk hne => (Below.heap_setCell _ _ _ k (by simp; omega)).trans (h.block k hk hne)⟩
theorem Rds.at_set {w : World} {size n : Nat} {p : Option Addr} {xs : List Value} (h : Rds w size p n xs) {g : Nat} (hg : ∀ a, p = some a → a.block ≠ g) (j : Nat) (v : Value) : Rds (w.setCell ⟨g, j, none⟩ v) size p n xs :=
  h.grownR (grown_setR w g j v) (fun a ha e => hg a ha (by injection e))
/-- A store into a block of one's own. -/
theorem RdrAt.other {w : World} {r n : Nat} {p : Option Addr} {c : Nat} {tk : List Tk} {s : RS} (h : RdrAt w r n p c tk s) {g : Nat} (hr : r ≠ g) (hp : ∀ a, p = some a → a.block ≠ g) (j : Nat) (v : Value) : RdrAt (w.setCell ⟨g, j, none⟩ v) r n p c tk s :=
  ⟨h.1.other (p := ⟨g, j, none⟩) hr v, h.2.1.at_set hp j v, h.2.2⟩
abbrev descL (table : Bool) (out : Nat) (used ro user own : Bool) : List Value := [.bool true, .bool table, .int .u64 out, .bool used, .bool ro, .bool user, .bool own]
abbrev dset (w : World) (g : Nat) (t : Bool) (out : Nat) (a b c d : Bool) : World := ((((((w.setCell ⟨g, 0, none⟩ (.bool true)).setCell ⟨g, 1, none⟩ (.bool t)).setCell ⟨g, 2, none⟩ (.int .u64 out)).setCell ⟨g, 3, none⟩ (.bool a)).setCell ⟨g, 4, none⟩ (.bool b)).setCell ⟨g, 5, none⟩ (.bool c)).setCell ⟨g, 6, none⟩ (.bool d)
theorem blk_dset {w : World} {T : TypeId} {g : Nat} {z0 z1 z2 z3 z4 z5 z6 : Value} (h : Blk w T g [z0, z1, z2, z3, z4, z5, z6]) (t : Bool) (out : Nat) (a b c d : Bool) : Blk (dset w g t out a b c d) T g (descL t out a b c d) := by
  simpa using ((((((h.set 0 (.bool true)).set 1 (.bool t)).set 2 (.int .u64 out)).set 3 (.bool a)).set 4 (.bool b)).set 5 (.bool c)).set 6 (.bool d)
theorem grown_dset {w w' : World} {row : Option Nat} {g : Nat} (h : w.grownBy w' row) (hg : w.heap.size ≤ g) (t : Bool) (out : Nat) (a b c d : Bool) : w.grownBy (dset w' g t out a b c d) row :=
  grown_at (grown_at (grown_at (grown_at (grown_at (grown_at (grown_at h hg 0 _) hg 1 _) hg 2 _) hg 3 _) hg 4 _) hg 5 _) hg 6 _
theorem RdrAt.dset {w : World} {r n : Nat} {p : Option Addr} {c : Nat} {tk : List Tk} {s : RS} (h : RdrAt w r n p c tk s) {g : Nat} (hr : r ≠ g) (hp : ∀ a, p = some a → a.block ≠ g) (t : Bool) (out : Nat) (x y z u : Bool) : RdrAt (dset w g t out x y z u) r n p c tk s :=
  ((((((h.other hr hp 0 _).other hr hp 1 _).other hr hp 2 _).other hr hp 3 _).other hr hp 4 _).other hr hp 5 _).other hr hp 6 _
set_option maxRecDepth 100000 in
set_option maxHeartbeats 1600000 in
theorem flags_any {r n : Nat} {p : Option Addr} {c : Nat} {tk : List Tk} {s : RS} (w : World) (out : Nat) (hp : ∀ a, p = some a → a.block < w.heap.size) (h : RdrAt w r n p c tk s) :
    Calls Tryz.prog 56 #[.pointer (some ⟨r, 0, none⟩), descV false out true false false false] w fun e w' => e = .returned (descV false out (flagsR tk s).1.used (flagsR tk s).1.ro (flagsR tk s).1.user (flagsR tk s).1.own) ∧ RdrAt w' r n p c tk (flagsR tk s).2 ∧ w.grownBy w' (some r) := by
  have hrl := h.lt
  have HFL := Lib.hid (show flagsR tk s = (⟨!(wIsR tk s ⟨#[117, 110, 117, 115, 101, 100]⟩).1, (wIsR tk (wIsR tk s ⟨#[117, 110, 117, 115, 101, 100]⟩).2 ⟨#[114, 111]⟩).1, (wIsR tk (wIsR tk (wIsR tk s ⟨#[117, 110, 117, 115, 101, 100]⟩).2 ⟨#[114, 111]⟩).2 ⟨#[117, 115, 101, 114]⟩).1, (wIsR tk (wIsR tk (wIsR tk (wIsR tk s ⟨#[117, 110, 117, 115, 101, 100]⟩).2 ⟨#[114, 111]⟩).2 ⟨#[117, 115, 101, 114]⟩).2 ⟨#[111, 119, 110]⟩).1⟩, (wIsR tk (wIsR tk (wIsR tk (wIsR tk s ⟨#[117, 110, 117, 115, 101, 100]⟩).2 ⟨#[114, 111]⟩).2 ⟨#[117, 115, 101, 114]⟩).2 ⟨#[111, 119, 110]⟩).2) from rfl)
  have hpd : ∀ a, p = some a → a.block ≠ w.heap.size := fun a ha => by have := hp a ha; omega
  have hpz : ∀ a, p = some a → a.block ≠ w.heap.size + 1 := fun a ha => by have := hp a ha; omega
  have HB := Lib.hid (below_alloc (below_alloc (Below.refl w.heap.size w) (.cells #[.bool true, .bool false, .int .u64 out, .bool true, .bool false, .bool false, .bool false] 112)) (.cells #[.bool false, .bool false, .int .u64 0, .bool false, .bool false, .bool false, .bool false] 112))
  have HR0 := Lib.hid (h.below HB.out)
  have HG0 := Lib.hid (grown_below (row := some r) HB.out)
  have HD0 := Lib.hid (show Blk ((w.alloc (.cells #[.bool true, .bool false, .int .u64 out, .bool true, .bool false, .bool false, .bool false] 112)).alloc (.cells #[.bool false, .bool false, .int .u64 0, .bool false, .bool false, .bool false, .bool false] 112)) 112 w.heap.size (descL false out true false false false) from (Blk.new w _ _).alloc _)
  have HZ0 := Lib.hid (show Blk ((w.alloc (.cells #[.bool true, .bool false, .int .u64 out, .bool true, .bool false, .bool false, .bool false] 112)).alloc (.cells #[.bool false, .bool false, .int .u64 0, .bool false, .bool false, .bool false, .bool false] 112)) 112 (w.heap.size + 1) [.bool false, .bool false, .int .u64 0, .bool false, .bool false, .bool false, .bool false] from by simpa using Blk.new (w.alloc (.cells #[.bool true, .bool false, .int .u64 out, .bool true, .bool false, .bool false, .bool false] 112)) 112 [.bool false, .bool false, .int .u64 0, .bool false, .bool false, .bool false, .bool false])
  have H1 := Lib.hid (wis_any _ ⟨#[117, 110, 117, 115, 101, 100]⟩ HR0.out)
  have H2 := Lib.hid (fun w1 (hh : RdrAt w1 r n p c tk (wIsR tk s ⟨#[117, 110, 117, 115, 101, 100]⟩).2) => wis_any w1 ⟨#[114, 111]⟩ hh)
  have H3 := Lib.hid (fun w1 (hh : RdrAt w1 r n p c tk (wIsR tk (wIsR tk s ⟨#[117, 110, 117, 115, 101, 100]⟩).2 ⟨#[114, 111]⟩).2) => wis_any w1 ⟨#[117, 115, 101, 114]⟩ hh)
  have H4 := Lib.hid (fun w1 (hh : RdrAt w1 r n p c tk (wIsR tk (wIsR tk (wIsR tk s ⟨#[117, 110, 117, 115, 101, 100]⟩).2 ⟨#[114, 111]⟩).2 ⟨#[117, 115, 101, 114]⟩).2) => wis_any w1 ⟨#[111, 119, 110]⟩ hh)
  clear h HB
  generalize wIsR tk (wIsR tk (wIsR tk (wIsR tk s ⟨#[117, 110, 117, 115, 101, 100]⟩).2 ⟨#[114, 111]⟩).2 ⟨#[117, 115, 101, 114]⟩).2 ⟨#[111, 119, 110]⟩ = y4 at *
  generalize wIsR tk (wIsR tk (wIsR tk s ⟨#[117, 110, 117, 115, 101, 100]⟩).2 ⟨#[114, 111]⟩).2 ⟨#[117, 115, 101, 114]⟩ = y3 at *
  generalize wIsR tk (wIsR tk s ⟨#[117, 110, 117, 115, 101, 100]⟩).2 ⟨#[114, 111]⟩ = y2 at *
  generalize wIsR tk s ⟨#[117, 110, 117, 115, 101, 100]⟩ = y1 at *
  obtain ⟨b1, s1⟩ := y1
  obtain ⟨b2, s2⟩ := y2
  obtain ⟨b3, s3⟩ := y3
  obtain ⟨b4, s4⟩ := y4
  simp only at HFL H2 H3 H4
  generalize flagsR tk s = Y at *
  have HY := HFL.out
  subst HY
  clear HFL
  go_enter Tryz.func56, Tryz.ntmps56
  go_wp2_with fail
  refine (H1.out).mono ?_
  rintro e w1 ⟨rfl, hr, hg⟩
  have hz1 : w.heap.size + 1 < w1.heap.size := by have := hg.size; simp at this; omega
  have hd1 : w.heap.size < w1.heap.size := by omega
  have HDk := Lib.hid (HD0.out.kept hg (by intro e; injection e; omega))
  have HZk := Lib.hid (HZ0.out.kept hg (by intro e; injection e; omega))
  have HGk := Lib.hid (grown_thenR HG0.out hg)
  have d0_1 := HDk.out.cell 0
  have e1_1 := HDk.out.cell 3
  have f1_1 := HDk.out.free 3
  simp only [List.getElem?_cons_zero, List.getElem?_cons_succ] at e1_1 d0_1
  have HR1 := Lib.hid (RdrAt.other hr (show r ≠ w.heap.size by omega) hpd 3 (.bool (!b1)))
  have HD1 := Lib.hid (show Blk (w1.setCell ⟨w.heap.size, 3, none⟩ (.bool (!b1))) 112 w.heap.size (descL false out (!b1) false false false) from by simpa using HDk.out.set 3 (.bool (!b1)))
  have HZ1 := Lib.hid (HZk.out.other (p := ⟨w.heap.size, 3, none⟩) (by simp) (.bool (!b1)))
  have HG1 := Lib.hid (grown_at HGk.out (Nat.le_refl _) 3 (.bool (!b1)))
  clear hr hg HDk HZk HGk H1 HR0 HD0 HZ0 HG0
  go_wp2_with fail
  refine (H2.out _ HR1.out).mono ?_
  rintro e w2 ⟨rfl, hr, hg⟩
  have hz2 : w.heap.size + 1 < w2.heap.size := by have := hg.size; simp at this; omega
  have hd2 : w.heap.size < w2.heap.size := by omega
  have HDk := Lib.hid (HD1.out.kept hg (by intro e; injection e; omega))
  have HZk := Lib.hid (HZ1.out.kept hg (by intro e; injection e; omega))
  have HGk := Lib.hid (grown_thenR HG1.out hg)
  have d0_2 := HDk.out.cell 0
  have e1_2 := HDk.out.cell 4
  have f1_2 := HDk.out.free 4
  simp only [List.getElem?_cons_zero, List.getElem?_cons_succ] at e1_2 d0_2
  have HR2 := Lib.hid (RdrAt.other hr (show r ≠ w.heap.size by omega) hpd 4 (.bool b2))
  have HD2 := Lib.hid (show Blk (w2.setCell ⟨w.heap.size, 4, none⟩ (.bool b2)) 112 w.heap.size (descL false out (!b1) b2 false false) from by simpa using HDk.out.set 4 (.bool b2))
  have HZ2 := Lib.hid (HZk.out.other (p := ⟨w.heap.size, 4, none⟩) (by simp) (.bool b2))
  have HG2 := Lib.hid (grown_at HGk.out (Nat.le_refl _) 4 (.bool b2))
  clear hr hg HDk HZk HGk H2 HR1 HD1 HZ1 HG1
  go_wp2_with fail
  refine (H3.out _ HR2.out).mono ?_
  rintro e w3 ⟨rfl, hr, hg⟩
  have hz3 : w.heap.size + 1 < w3.heap.size := by have := hg.size; simp at this; omega
  have hd3 : w.heap.size < w3.heap.size := by omega
  have HDk := Lib.hid (HD2.out.kept hg (by intro e; injection e; omega))
  have HZk := Lib.hid (HZ2.out.kept hg (by intro e; injection e; omega))
  have HGk := Lib.hid (grown_thenR HG2.out hg)
  have d0_3 := HDk.out.cell 0
  have e1_3 := HDk.out.cell 5
  have f1_3 := HDk.out.free 5
  simp only [List.getElem?_cons_zero, List.getElem?_cons_succ] at e1_3 d0_3
  have HR3 := Lib.hid (RdrAt.other hr (show r ≠ w.heap.size by omega) hpd 5 (.bool b3))
  have HD3 := Lib.hid (show Blk (w3.setCell ⟨w.heap.size, 5, none⟩ (.bool b3)) 112 w.heap.size (descL false out (!b1) b2 b3 false) from by simpa using HDk.out.set 5 (.bool b3))
  have HZ3 := Lib.hid (HZk.out.other (p := ⟨w.heap.size, 5, none⟩) (by simp) (.bool b3))
  have HG3 := Lib.hid (grown_at HGk.out (Nat.le_refl _) 5 (.bool b3))
  clear hr hg HDk HZk HGk H3 HR2 HD2 HZ2 HG2
  go_wp2_with fail
  refine (H4.out _ HR3.out).mono ?_
  rintro e w4 ⟨rfl, hr, hg⟩
  have hz4 : w.heap.size + 1 < w4.heap.size := by have := hg.size; simp at this; omega
  have hd4 : w.heap.size < w4.heap.size := by omega
  have HDk := Lib.hid (HD3.out.kept hg (by intro e; injection e; omega))
  have HZk := Lib.hid (HZ3.out.kept hg (by intro e; injection e; omega))
  have HGk := Lib.hid (grown_thenR HG3.out hg)
  have d0_4 := HDk.out.cell 0
  have e1_4 := HDk.out.cell 6
  have f1_4 := HDk.out.free 6
  simp only [List.getElem?_cons_zero, List.getElem?_cons_succ] at e1_4 d0_4
  have HR4 := Lib.hid (RdrAt.other hr (show r ≠ w.heap.size by omega) hpd 6 (.bool b4))
  have HD4 := Lib.hid (show Blk (w4.setCell ⟨w.heap.size, 6, none⟩ (.bool b4)) 112 w.heap.size (descL false out (!b1) b2 b3 b4) from by simpa using HDk.out.set 6 (.bool b4))
  have HZ4 := Lib.hid (HZk.out.other (p := ⟨w.heap.size, 6, none⟩) (by simp) (.bool b4))
  have HG4 := Lib.hid (grown_at HGk.out (Nat.le_refl _) 6 (.bool b4))
  clear hr hg HDk HZk HGk H4 HR3 HD3 HZ3 HG3
  have c0 := HD4.out.cell 0
  have c1 := HD4.out.cell 1
  have c2 := HD4.out.cell 2
  have c3 := HD4.out.cell 3
  have c4 := HD4.out.cell 4
  have c5 := HD4.out.cell 5
  have c6 := HD4.out.cell 6
  have z0 := HZ4.out.cell 0
  have z1 := HZ4.out.cell 1
  have z2 := HZ4.out.cell 2
  have z3 := HZ4.out.cell 3
  have z4 := HZ4.out.cell 4
  have z5 := HZ4.out.cell 5
  have z6 := HZ4.out.cell 6
  have y0 := HZ4.out.free 0
  have y1 := HZ4.out.free 1
  have y2 := HZ4.out.free 2
  have y3 := HZ4.out.free 3
  have y4 := HZ4.out.free 4
  have y5 := HZ4.out.free 5
  have y6 := HZ4.out.free 6
  simp only [List.getElem?_cons_zero, List.getElem?_cons_succ] at c0 c1 c2 c3 c4 c5 c6 z0 z1 z2 z3 z4 z5 z6
  go_wp2_with fail
  refine bodyPost_ret (results_cell_row rfl _ _ (w.heap.size + 1) 112 #[.bool true, .bool false, .int .u64 out, .bool (!b1), .bool b2, .bool b3, .bool b4] (0, 0) _ rfl (blk_dset HZ4.out false out (!b1) b2 b3 b4) Tryz.underlying112 rfl (by kernel_rfl)) rfl ?_
  exact ⟨rfl, HR4.out.dset (by omega) hpz false out (!b1) b2 b3 b4, grown_dset HG4.out (by omega) false out (!b1) b2 b3 b4⟩
set_option maxRecDepth 100000 in
set_option maxHeartbeats 3200000 in
theorem litv_any {r n : Nat} {p : Option Addr} {c : Nat} {tk : List Tk} {s : RS} (w : World) (hp : ∀ a, p = some a → a.block < w.heap.size) (h : RdrAt w r n p c tk s) :
    Calls Tryz.prog 46 #[.pointer (some ⟨r, 0, none⟩)] w fun e w' => e = .returned (.int .u64 (litV tk s).1) ∧ RdrAt w' r n p c tk (litV tk s).2 ∧ w.grownBy w' (some r) := by
  have hrl := h.lt
  have hpd : ∀ a, p = some a → a.block ≠ w.heap.size := fun a ha => by have := hp a ha; omega
  have hrd : r ≠ w.heap.size := by omega
  have HB := Lib.hid (below_alloc (Below.refl w.heap.size w) (.cells #[.bool false, .bool false, .int .u64 0, .bool false, .bool false, .bool false, .bool false] 112))
  have HR0 := Lib.hid (h.below HB.out)
  have HG0 := Lib.hid (grown_below (row := some r) HB.out)
  have HD0 := Lib.hid (show Blk (w.alloc (.cells #[.bool false, .bool false, .int .u64 0, .bool false, .bool false, .bool false, .bool false] 112)) 112 w.heap.size [.bool false, .bool false, .int .u64 0, .bool false, .bool false, .bool false, .bool false] from Blk.new w _ _)
  have HW := Lib.hid (fun w1 (s : RS) t (hh : RdrAt w1 r n p c tk s) => wis_any w1 t hh)
  have HNU := Lib.hid (fun w1 (s : RS) (hh : RdrAt w1 r n p c tk s) => number_any w1 hh)
  have HFA := Lib.hid (fun w1 (s : RS) x (hh : RdrAt w1 r n p c tk s) => fail_any w1 x hh)
  have HLV := Lib.hid (show litV tk s = if (wIsR tk s ⟨#[116, 111]⟩).1 then encR tk (numberR tk (wIsR tk s ⟨#[116, 111]⟩).2).2 (encD true (numberR tk (wIsR tk s ⟨#[116, 111]⟩).2).1 false false false false 1) else
    if (wIsR tk s ⟨#[98, 108, 111, 99, 107]⟩).1 then encR tk (flagsR tk (numberR tk (wIsR tk s ⟨#[98, 108, 111, 99, 107]⟩).2).2).2 (encD false (numberR tk (wIsR tk s ⟨#[98, 108, 111, 99, 107]⟩).2).1 (flagsR tk (numberR tk (wIsR tk s ⟨#[98, 108, 111, 99, 107]⟩).2).2).1.used (flagsR tk (numberR tk (wIsR tk s ⟨#[98, 108, 111, 99, 107]⟩).2).2).1.ro (flagsR tk (numberR tk (wIsR tk s ⟨#[98, 108, 111, 99, 107]⟩).2).2).1.user (flagsR tk (numberR tk (wIsR tk s ⟨#[98, 108, 111, 99, 107]⟩).2).2).1.own 1) else
    if (wIsR tk s ⟨#[112, 97, 103, 101]⟩).1 then encR tk (flagsR tk (numberR tk (wIsR tk s ⟨#[112, 97, 103, 101]⟩).2).2).2 (encD false (numberR tk (wIsR tk s ⟨#[112, 97, 103, 101]⟩).2).1 (flagsR tk (numberR tk (wIsR tk s ⟨#[112, 97, 103, 101]⟩).2).2).1.used (flagsR tk (numberR tk (wIsR tk s ⟨#[112, 97, 103, 101]⟩).2).2).1.ro (flagsR tk (numberR tk (wIsR tk s ⟨#[112, 97, 103, 101]⟩).2).2).1.user (flagsR tk (numberR tk (wIsR tk s ⟨#[112, 97, 103, 101]⟩).2).2).1.own 2) else numberR tk s from rfl)
  have HS := Lib.hid (fun t (e : (wIsR tk s t).1 = false) => show (wIsR tk s t).2 = s by unfold wIsR at e ⊢; simp only at e ⊢; rw [e]; rfl)
  clear h HB
  go_enter Tryz.func46, Tryz.ntmps46
  go_wp2_with fail
  have HI1 := Lib.hid (HW.out _ s ⟨#[116, 111]⟩ HR0.out)
  cases hb1 : (wIsR tk s ⟨#[116, 111]⟩).1
  · have hS1 := HS.out ⟨#[116, 111]⟩ hb1
    rw [hb1, hS1] at HI1
    rw [hb1] at HLV
    clear hb1 hS1
    refine (HI1.out).mono ?_
    rintro e w1 ⟨rfl, hr, hg⟩
    have HR1 := Lib.hid hr
    have HG1 := Lib.hid (grown_thenR HG0.out hg)
    have HD1 := Lib.hid (HD0.out.kept hg (by intro e; injection e; omega))
    have hd1 := HD1.out.lt
    clear hr hg HR0 HG0 HD0
    clear HI1
    have HI2 := Lib.hid (HW.out _ s ⟨#[98, 108, 111, 99, 107]⟩ HR1.out)
    cases hb2 : (wIsR tk s ⟨#[98, 108, 111, 99, 107]⟩).1
    · have hS2 := HS.out ⟨#[98, 108, 111, 99, 107]⟩ hb2
      rw [hb2, hS2] at HI2
      rw [hb2] at HLV
      clear hb2 hS2
      go_wp2_with fail
      refine (HI2.out).mono ?_
      rintro e w2 ⟨rfl, hr, hg⟩
      have HR2 := Lib.hid hr
      have HG2 := Lib.hid (grown_thenR HG1.out hg)
      have HD2 := Lib.hid (HD1.out.kept hg (by intro e; injection e; omega))
      have hd2 := HD2.out.lt
      clear hr hg HR1 HG1 HD1
      clear HI2
      have HI3 := Lib.hid (HW.out _ s ⟨#[112, 97, 103, 101]⟩ HR2.out)
      cases hb3 : (wIsR tk s ⟨#[112, 97, 103, 101]⟩).1
      · have hS3 := HS.out ⟨#[112, 97, 103, 101]⟩ hb3
        rw [hb3, hS3] at HI3
        rw [hb3] at HLV
        clear hb3 hS3
        go_wp2_with fail
        refine (HI3.out).mono ?_
        rintro e w3 ⟨rfl, hr, hg⟩
        have HR3 := Lib.hid hr
        have HG3 := Lib.hid (grown_thenR HG2.out hg)
        have HD3 := Lib.hid (HD2.out.kept hg (by intro e; injection e; omega))
        have hd3 := HD3.out.lt
        clear hr hg HR2 HG2 HD2
        clear HI3
        have HM := Lib.hid (show litV tk s = numberR tk s from HLV.out)
        have HN2 := Lib.hid (HNU.out _ s HR3.out)
        generalize numberR tk s = y at *
        obtain ⟨v, s2⟩ := y
        go_wp2_with fail
        refine (HN2.out).mono ?_
        rintro e w9 ⟨rfl, hr, hg⟩
        have HG9 := Lib.hid (grown_thenR HG3.out hg)
        have HR9 := Lib.hid hr
        clear hr hg
        go_wp2_with fail
        go_ret
        exact ⟨by rw [HM.out]; rfl, by rw [HM.out]; exact HR9.out, HG9.out⟩
      · rw [hb3] at HLV HI3
        clear hb3
        go_wp2_with fail
        generalize (wIsR tk s ⟨#[112, 97, 103, 101]⟩).2 = s1 at *
        refine (HI3.out).mono ?_
        rintro e w3 ⟨rfl, hr, hg⟩
        have HR3 := Lib.hid hr
        have HG3 := Lib.hid (grown_thenR HG2.out hg)
        have HD3 := Lib.hid (HD2.out.kept hg (by intro e; injection e; omega))
        have hd3 := HD3.out.lt
        clear hr hg HR2 HG2 HD2
        clear HI3
        have HM := Lib.hid (show litV tk s = encR tk (flagsR tk (numberR tk s1).2).2 (encD false (numberR tk s1).1 (flagsR tk (numberR tk s1).2).1.used (flagsR tk (numberR tk s1).2).1.ro (flagsR tk (numberR tk s1).2).1.user (flagsR tk (numberR tk s1).2).1.own 2) from HLV.out)
        have HN2 := Lib.hid (HNU.out _ s1 HR3.out)
        have hv := numberR_lt tk s1
        generalize numberR tk s1 = y at *
        obtain ⟨v, s2⟩ := y
        simp only at HM hv
        clear HLV
        go_wp2_with fail
        refine (HN2.out).mono ?_
        rintro e w4 ⟨rfl, hr, hg⟩
        have HR4 := Lib.hid hr
        have HG4 := Lib.hid (grown_thenR HG3.out hg)
        have HD4 := Lib.hid (HD3.out.kept hg (by intro e; injection e; omega))
        have hd4 := HD4.out.lt
        clear hr hg HR3 HG3 HD3
        have HF2 := Lib.hid (flags_any w4 v (fun a ha => by have := hp a ha; omega) HR4.out)
        generalize flagsR tk s2 = y at *
        obtain ⟨⟨fu, fr, fs, fo⟩, s3⟩ := y
        simp only at HM
        go_wp2_with fail
        refine (HF2.out).mono ?_
        rintro e w5 ⟨rfl, hr, hg⟩
        have HR5 := Lib.hid hr
        have HG5 := Lib.hid (grown_thenR HG4.out hg)
        have HD5 := Lib.hid (HD4.out.kept hg (by intro e; injection e; omega))
        have hd5 := HD5.out.lt
        clear hr hg HR4 HG4 HD4
        have z0 := HD5.out.cell 0
        have y0 := HD5.out.free 0
        have z1 := HD5.out.cell 1
        have y1 := HD5.out.free 1
        have z2 := HD5.out.cell 2
        have y2 := HD5.out.free 2
        have z3 := HD5.out.cell 3
        have y3 := HD5.out.free 3
        have z4 := HD5.out.cell 4
        have y4 := HD5.out.free 4
        have z5 := HD5.out.cell 5
        have y5 := HD5.out.free 5
        have z6 := HD5.out.cell 6
        have y6 := HD5.out.free 6
        simp only [List.getElem?_cons_zero, List.getElem?_cons_succ] at z0 z1 z2 z3 z4 z5 z6
        have HD6 := Lib.hid (blk_dset HD5.out false v fu fr fs fo)
        have HR6 := Lib.hid (HR5.out.dset hrd hpd false v fu fr fs fo)
        have HG6 := Lib.hid (grown_dset HG5.out (Nat.le_refl _) false v fu fr fs fo)
        clear HR5 HG5 HD5
        have HE := Lib.hid (fun w1 => enc_p2 v fu fr fs fo w1 hv)
        generalize encD false v fu fr fs fo 2 = x at *
        obtain ⟨x, code⟩ := x
        simp only at HM HE
        go_wp2_with fail
        refine (HE.out _).mono ?_
        rintro e w9 ⟨rfl, hb⟩
        have HR9 := Lib.hid (HR6.out.below hb)
        have HG9 := Lib.hid (grown_thenR HG6.out (grown_below hb))
        clear hb HD6 HR6 HG6 z0 z1 z2 z3 z4 z5 z6 y0 y1 y2 y3 y4 y5 y6
        by_cases hc : code = 0
        · subst hc
          go_wp2_with fail
          go_ret
          exact ⟨by rw [HM.out]; rfl, by rw [HM.out]; exact HR9.out, HG9.out⟩
        · have hcb : ((code : Int) != 0) = true := bne_iff_ne.2 (by omega)
          have HFF := Lib.hid (HFA.out w9 _ (code : Nat) HR9.out)
          have HX := Lib.hid hc
          clear hc
          go_wp2_with fail
          refine (HFF.out).mono ?_
          rintro e w10 ⟨rfl, hr, hg⟩
          have HG10 := Lib.hid (grown_thenR HG9.out hg)
          have HR10 := Lib.hid hr
          clear hr hg
          go_wp2_with fail
          go_ret
          refine ⟨by rw [HM.out]; rfl, ?_, HG10.out⟩
          rw [HM.out]
          simp only [encR, if_neg HX.out]
          exact HR10.out
    · rw [hb2] at HLV HI2
      clear hb2
      go_wp2_with fail
      generalize (wIsR tk s ⟨#[98, 108, 111, 99, 107]⟩).2 = s1 at *
      refine (HI2.out).mono ?_
      rintro e w2 ⟨rfl, hr, hg⟩
      have HR2 := Lib.hid hr
      have HG2 := Lib.hid (grown_thenR HG1.out hg)
      have HD2 := Lib.hid (HD1.out.kept hg (by intro e; injection e; omega))
      have hd2 := HD2.out.lt
      clear hr hg HR1 HG1 HD1
      clear HI2
      have HM := Lib.hid (show litV tk s = encR tk (flagsR tk (numberR tk s1).2).2 (encD false (numberR tk s1).1 (flagsR tk (numberR tk s1).2).1.used (flagsR tk (numberR tk s1).2).1.ro (flagsR tk (numberR tk s1).2).1.user (flagsR tk (numberR tk s1).2).1.own 1) from HLV.out)
      have HN2 := Lib.hid (HNU.out _ s1 HR2.out)
      have hv := numberR_lt tk s1
      generalize numberR tk s1 = y at *
      obtain ⟨v, s2⟩ := y
      simp only at HM hv
      clear HLV
      go_wp2_with fail
      refine (HN2.out).mono ?_
      rintro e w3 ⟨rfl, hr, hg⟩
      have HR3 := Lib.hid hr
      have HG3 := Lib.hid (grown_thenR HG2.out hg)
      have HD3 := Lib.hid (HD2.out.kept hg (by intro e; injection e; omega))
      have hd3 := HD3.out.lt
      clear hr hg HR2 HG2 HD2
      have HF2 := Lib.hid (flags_any w3 v (fun a ha => by have := hp a ha; omega) HR3.out)
      generalize flagsR tk s2 = y at *
      obtain ⟨⟨fu, fr, fs, fo⟩, s3⟩ := y
      simp only at HM
      go_wp2_with fail
      refine (HF2.out).mono ?_
      rintro e w4 ⟨rfl, hr, hg⟩
      have HR4 := Lib.hid hr
      have HG4 := Lib.hid (grown_thenR HG3.out hg)
      have HD4 := Lib.hid (HD3.out.kept hg (by intro e; injection e; omega))
      have hd4 := HD4.out.lt
      clear hr hg HR3 HG3 HD3
      have z0 := HD4.out.cell 0
      have y0 := HD4.out.free 0
      have z1 := HD4.out.cell 1
      have y1 := HD4.out.free 1
      have z2 := HD4.out.cell 2
      have y2 := HD4.out.free 2
      have z3 := HD4.out.cell 3
      have y3 := HD4.out.free 3
      have z4 := HD4.out.cell 4
      have y4 := HD4.out.free 4
      have z5 := HD4.out.cell 5
      have y5 := HD4.out.free 5
      have z6 := HD4.out.cell 6
      have y6 := HD4.out.free 6
      simp only [List.getElem?_cons_zero, List.getElem?_cons_succ] at z0 z1 z2 z3 z4 z5 z6
      have HD5 := Lib.hid (blk_dset HD4.out false v fu fr fs fo)
      have HR5 := Lib.hid (HR4.out.dset hrd hpd false v fu fr fs fo)
      have HG5 := Lib.hid (grown_dset HG4.out (Nat.le_refl _) false v fu fr fs fo)
      clear HR4 HG4 HD4
      have HE := Lib.hid (fun w1 => enc_b1 v fu fr fs fo w1 hv)
      generalize encD false v fu fr fs fo 1 = x at *
      obtain ⟨x, code⟩ := x
      simp only at HM HE
      go_wp2_with fail
      refine (HE.out _).mono ?_
      rintro e w9 ⟨rfl, hb⟩
      have HR9 := Lib.hid (HR5.out.below hb)
      have HG9 := Lib.hid (grown_thenR HG5.out (grown_below hb))
      clear hb HD5 HR5 HG5 z0 z1 z2 z3 z4 z5 z6 y0 y1 y2 y3 y4 y5 y6
      by_cases hc : code = 0
      · subst hc
        go_wp2_with fail
        go_ret
        exact ⟨by rw [HM.out]; rfl, by rw [HM.out]; exact HR9.out, HG9.out⟩
      · have hcb : ((code : Int) != 0) = true := bne_iff_ne.2 (by omega)
        have HFF := Lib.hid (HFA.out w9 _ (code : Nat) HR9.out)
        have HX := Lib.hid hc
        clear hc
        go_wp2_with fail
        refine (HFF.out).mono ?_
        rintro e w10 ⟨rfl, hr, hg⟩
        have HG10 := Lib.hid (grown_thenR HG9.out hg)
        have HR10 := Lib.hid hr
        clear hr hg
        go_wp2_with fail
        go_ret
        refine ⟨by rw [HM.out]; rfl, ?_, HG10.out⟩
        rw [HM.out]
        simp only [encR, if_neg HX.out]
        exact HR10.out
  · rw [hb1] at HLV HI1
    clear hb1
    generalize (wIsR tk s ⟨#[116, 111]⟩).2 = s1 at *
    refine (HI1.out).mono ?_
    rintro e w1 ⟨rfl, hr, hg⟩
    have HR1 := Lib.hid hr
    have HG1 := Lib.hid (grown_thenR HG0.out hg)
    have HD1 := Lib.hid (HD0.out.kept hg (by intro e; injection e; omega))
    have hd1 := HD1.out.lt
    clear hr hg HR0 HG0 HD0
    clear HI1
    have HM := Lib.hid (show litV tk s = encR tk (numberR tk s1).2 (encD true (numberR tk s1).1 false false false false 1) from HLV.out)
    have HN2 := Lib.hid (HNU.out _ s1 HR1.out)
    have hv := numberR_lt tk s1
    generalize numberR tk s1 = y at *
    obtain ⟨v, s2⟩ := y
    simp only at HM hv
    clear HLV
    go_wp2_with fail
    refine (HN2.out).mono ?_
    rintro e w2 ⟨rfl, hr, hg⟩
    have HR2 := Lib.hid hr
    have HG2 := Lib.hid (grown_thenR HG1.out hg)
    have HD2 := Lib.hid (HD1.out.kept hg (by intro e; injection e; omega))
    have hd2 := HD2.out.lt
    clear hr hg HR1 HG1 HD1
    have z0 := HD2.out.cell 0
    have y0 := HD2.out.free 0
    have z1 := HD2.out.cell 1
    have y1 := HD2.out.free 1
    have z2 := HD2.out.cell 2
    have y2 := HD2.out.free 2
    have z3 := HD2.out.cell 3
    have y3 := HD2.out.free 3
    have z4 := HD2.out.cell 4
    have y4 := HD2.out.free 4
    have z5 := HD2.out.cell 5
    have y5 := HD2.out.free 5
    have z6 := HD2.out.cell 6
    have y6 := HD2.out.free 6
    simp only [List.getElem?_cons_zero, List.getElem?_cons_succ] at z0 z1 z2 z3 z4 z5 z6
    have HD3 := Lib.hid (blk_dset HD2.out true v false false false false)
    have HR3 := Lib.hid (HR2.out.dset hrd hpd true v false false false false)
    have HG3 := Lib.hid (grown_dset HG2.out (Nat.le_refl _) true v false false false false)
    clear HR2 HG2 HD2
    have HE := Lib.hid (fun w1 => enc_t1 v w1 hv)
    generalize encD true v false false false false 1 = x at *
    obtain ⟨x, code⟩ := x
    simp only at HM HE
    go_wp2_with fail
    refine (HE.out _).mono ?_
    rintro e w9 ⟨rfl, hb⟩
    have HR9 := Lib.hid (HR3.out.below hb)
    have HG9 := Lib.hid (grown_thenR HG3.out (grown_below hb))
    clear hb HD3 HR3 HG3 z0 z1 z2 z3 z4 z5 z6 y0 y1 y2 y3 y4 y5 y6
    by_cases hc : code = 0
    · subst hc
      go_wp2_with fail
      go_ret
      exact ⟨by rw [HM.out]; rfl, by rw [HM.out]; exact HR9.out, HG9.out⟩
    · have hcb : ((code : Int) != 0) = true := bne_iff_ne.2 (by omega)
      have HFF := Lib.hid (HFA.out w9 _ (code : Nat) HR9.out)
      have HX := Lib.hid hc
      clear hc
      go_wp2_with fail
      refine (HFF.out).mono ?_
      rintro e w10 ⟨rfl, hr, hg⟩
      have HG10 := Lib.hid (grown_thenR HG9.out hg)
      have HR10 := Lib.hid hr
      clear hr hg
      go_wp2_with fail
      go_ret
      refine ⟨by rw [HM.out]; rfl, ?_, HG10.out⟩
      rw [HM.out]
      simp only [encR, if_neg HX.out]
      exact HR10.out
end Go.Proofs.YtcaifejfkpmeeaaGreat
