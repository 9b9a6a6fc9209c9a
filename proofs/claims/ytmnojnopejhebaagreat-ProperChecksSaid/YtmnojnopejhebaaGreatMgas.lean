/- The state's functions: early, handler, test, cond. -/
import Derived.Test.YtmnojnopejhebaaGreatMgar
namespace Go.Proofs.YtmnojnopejhebaaGreat
set_option linter.unusedVariables false
set_option linter.unusedSimpArgs false
set_option maxRecDepth 100000
set_option maxHeartbeats 25600000
section
open Go.RowKit
theorem m0l {r n : Nat} {p : Option Addr} {c : Nat} {tk : List Tk} {s : RS} (w : World) (t : ByteArray) (h : a0y w r n p c tk s) :
  Calls Tryz.prog 135 #[.pointer (some ⟨r, 0, none⟩), .int .i64 1, .string t] w fun e w' => e = .returned (.bool (wIsR tk s t).1) ∧ a0y w' r n p c tk (wIsR tk s t).2 ∧ w.grownBy w' (some r) := m0a w 1 t h
theorem f0x {w w' : World} {row : Option Nat} {g : Nat} (h : w.grownBy w' row) (hg : w.heap.size ≤ g) (j : Nat) (v : Value) : w.grownBy (w'.setCell ⟨g, j, none⟩ v) row :=
 ⟨h.os, h.tape, h.output, by simpa using h.size, fun k hk hne => (Below.heap_setCell _ _ _ k (by simp; omega)).trans (h.block k hk hne)⟩
theorem Rds.at_set {w : World} {size n : Nat} {p : Option Addr} {xs : List Value} (h : Rds w size p n xs) {g : Nat} (hg : ∀ a, p = some a → a.block ≠ g) (j : Nat) (v : Value) : Rds (w.setCell ⟨g, j, none⟩ v) size p n xs :=
 h.grownR (a0r w g j v) (fun a ha e => hg a ha (by injection e))
theorem a0y.other {w : World} {r n : Nat} {p : Option Addr} {c : Nat} {tk : List Tk} {s : RS} (h : a0y w r n p c tk s) {g : Nat} (hr : r ≠ g) (hp : ∀ a, p = some a → a.block ≠ g) (j : Nat) (v : Value) : a0y (w.setCell ⟨g, j, none⟩ v) r n p c tk s :=
 ⟨h.1.other (p := ⟨g, j, none⟩) hr v, h.2.1.at_set hp j v, h.2.2⟩
abbrev a1r (table : Bool) (out : Nat) (used ro user own : Bool) : List Value := [.bool true, .bool table, .int .u64 out, .bool used, .bool ro, .bool user, .bool own]
abbrev dset (w : World) (g : Nat) (t : Bool) (out : Nat) (a b c d : Bool) : World := ((((((w.setCell ⟨g, 0, none⟩ (.bool true)).setCell ⟨g, 1, none⟩ (.bool t)).setCell ⟨g, 2, none⟩ (.int .u64 out)).setCell ⟨g, 3, none⟩ (.bool a)).setCell ⟨g, 4, none⟩ (.bool b)).setCell ⟨g, 5, none⟩ (.bool c)).setCell ⟨g, 6, none⟩ (.bool d)
theorem o0i {w : World} {T : TypeId} {g : Nat} {z0 z1 z2 z3 z4 z5 z6 : Value} (h : Blk w T g [z0, z1, z2, z3, z4, z5, z6]) (t : Bool) (out : Nat) (a b c d : Bool) : Blk (dset w g t out a b c d) T g (a1r t out a b c d) := by
 simpa using ((((((h.set 0 (.bool true)).set 1 (.bool t)).set 2 (.int .u64 out)).set 3 (.bool a)).set 4 (.bool b)).set 5 (.bool c)).set 6 (.bool d)
theorem k0w {w w' : World} {row : Option Nat} {g : Nat} (h : w.grownBy w' row) (hg : w.heap.size ≤ g) (t : Bool) (out : Nat) (a b c d : Bool) : w.grownBy (dset w' g t out a b c d) row :=
 f0x (f0x (f0x (f0x (f0x (f0x (f0x h hg 0 _) hg 1 _) hg 2 _) hg 3 _) hg 4 _) hg 5 _) hg 6 _
theorem a0y.dset {w : World} {r n : Nat} {p : Option Addr} {c : Nat} {tk : List Tk} {s : RS} (h : a0y w r n p c tk s) {g : Nat} (hr : r ≠ g) (hp : ∀ a, p = some a → a.block ≠ g) (t : Bool) (out : Nat) (x y z u : Bool) : a0y (dset w g t out x y z u) r n p c tk s :=
 ((((((h.other hr hp 0 _).other hr hp 1 _).other hr hp 2 _).other hr hp 3 _).other hr hp 4 _).other hr hp 5 _).other hr hp 6 _
theorem t0z {r n : Nat} {p : Option Addr} {c : Nat} {tk : List Tk} {s : RS} (w : World) (out : Nat) (hp : ∀ a, p = some a → a.block < w.heap.size) (h : a0y w r n p c tk s) :
  Calls Tryz.prog 149 #[.pointer (some ⟨r, 0, none⟩), u0g false out true false false false] w fun e w' => e = .returned (u0g false out (c0n tk s).1.used (c0n tk s).1.ro (c0n tk s).1.user (c0n tk s).1.own) ∧ a0y w' r n p c tk (c0n tk s).2 ∧ w.grownBy w' (some r) := by
 have hrl := h.lt
 have HFL := h_ (show c0n tk s = (⟨!(wIsR tk s ⟨#[117, 110, 117, 115, 101, 100]⟩).1, (wIsR tk (wIsR tk s ⟨#[117, 110, 117, 115, 101, 100]⟩).2 ⟨#[114, 111]⟩).1, (wIsR tk (wIsR tk (wIsR tk s ⟨#[117, 110, 117, 115, 101, 100]⟩).2 ⟨#[114, 111]⟩).2 ⟨#[117, 115, 101, 114]⟩).1, (wIsR tk (wIsR tk (wIsR tk (wIsR tk s ⟨#[117, 110, 117, 115, 101, 100]⟩).2 ⟨#[114, 111]⟩).2 ⟨#[117, 115, 101, 114]⟩).2 ⟨#[111, 119, 110]⟩).1⟩, (wIsR tk (wIsR tk (wIsR tk (wIsR tk s ⟨#[117, 110, 117, 115, 101, 100]⟩).2 ⟨#[114, 111]⟩).2 ⟨#[117, 115, 101, 114]⟩).2 ⟨#[111, 119, 110]⟩).2) from rfl)
 have hpd : ∀ a, p = some a → a.block ≠ w.heap.size := fun a ha => by have := hp a ha; omega
 have hpz : ∀ a, p = some a → a.block ≠ w.heap.size + 1 := fun a ha => by have := hp a ha; omega
 have HB := h_ (bl_ (bl_ (Below.refl w.heap.size w) (.cells #[.bool true, .bool false, .int .u64 out, .bool true, .bool false, .bool false, .bool false] 196)) (.cells #[.bool false, .bool false, .int .u64 0, .bool false, .bool false, .bool false, .bool false] 196))
 have HR0 := h_ (h.below HB.out)
 have HG0 := h_ (a0b (row := some r) HB.out)
 have HD0 := h_ (show Blk ((w.alloc (.cells #[.bool true, .bool false, .int .u64 out, .bool true, .bool false, .bool false, .bool false] 196)).alloc (.cells #[.bool false, .bool false, .int .u64 0, .bool false, .bool false, .bool false, .bool false] 196)) 196 w.heap.size (a1r false out true false false false) from (Blk.new w _ _).alloc _)
 have HZ0 := h_ (show Blk ((w.alloc (.cells #[.bool true, .bool false, .int .u64 out, .bool true, .bool false, .bool false, .bool false] 196)).alloc (.cells #[.bool false, .bool false, .int .u64 0, .bool false, .bool false, .bool false, .bool false] 196)) 196 (w.heap.size + 1) [.bool false, .bool false, .int .u64 0, .bool false, .bool false, .bool false, .bool false] from by simpa using Blk.new (w.alloc (.cells #[.bool true, .bool false, .int .u64 out, .bool true, .bool false, .bool false, .bool false] 196)) 196 [.bool false, .bool false, .int .u64 0, .bool false, .bool false, .bool false, .bool false])
 have H1 := h_ (m0l _ ⟨#[117, 110, 117, 115, 101, 100]⟩ HR0.out)
 have H2 := h_ (fun w1 (hh : a0y w1 r n p c tk (wIsR tk s ⟨#[117, 110, 117, 115, 101, 100]⟩).2) => m0l w1 ⟨#[114, 111]⟩ hh)
 have H3 := h_ (fun w1 (hh : a0y w1 r n p c tk (wIsR tk (wIsR tk s ⟨#[117, 110, 117, 115, 101, 100]⟩).2 ⟨#[114, 111]⟩).2) => m0l w1 ⟨#[117, 115, 101, 114]⟩ hh)
 have H4 := h_ (fun w1 (hh : a0y w1 r n p c tk (wIsR tk (wIsR tk (wIsR tk s ⟨#[117, 110, 117, 115, 101, 100]⟩).2 ⟨#[114, 111]⟩).2 ⟨#[117, 115, 101, 114]⟩).2) => m0l w1 ⟨#[111, 119, 110]⟩ hh)
 clear h HB
 generalize wIsR tk (wIsR tk (wIsR tk (wIsR tk s ⟨#[117, 110, 117, 115, 101, 100]⟩).2 ⟨#[114, 111]⟩).2 ⟨#[117, 115, 101, 114]⟩).2 ⟨#[111, 119, 110]⟩ = y4 at *
 generalize wIsR tk (wIsR tk (wIsR tk s ⟨#[117, 110, 117, 115, 101, 100]⟩).2 ⟨#[114, 111]⟩).2 ⟨#[117, 115, 101, 114]⟩ = y3 at *
 generalize wIsR tk (wIsR tk s ⟨#[117, 110, 117, 115, 101, 100]⟩).2 ⟨#[114, 111]⟩ = y2 at *
 generalize wIsR tk s ⟨#[117, 110, 117, 115, 101, 100]⟩ = y1 at *
 obtain ⟨b1, s1⟩ := y1
 obtain ⟨b2, s2⟩ := y2
 obtain ⟨b3, s3⟩ := y3
 obtain ⟨b4, s4⟩ := y4
 simp only at HFL H2 H3 H4
 generalize c0n tk s = Y at *
 have HY := HFL.out
 subst HY
 clear HFL
 go_enter Tryz.func149, Tryz.ntmps149
 go_wp2_with fail
 refine (H1.out).mono ?_
 rintro e w1 ⟨rfl, hr, hg⟩
 have hz1 : w.heap.size + 1 < w1.heap.size := by have := hg.size; simp at this; omega
 have hd1 : w.heap.size < w1.heap.size := by omega
 have HDk := h_ (HD0.out.kept hg (by intro e; injection e; omega))
 have HZk := h_ (HZ0.out.kept hg (by intro e; injection e; omega))
 have HGk := h_ (a0a HG0.out hg)
 have d0_1 := HDk.out.cell 0
 have e1_1 := HDk.out.cell 3
 have f1_1 := HDk.out.free 3
 simp only [gz_, gs_] at e1_1 d0_1
 have HR1 := h_ (a0y.other hr (show r ≠ w.heap.size by omega) hpd 3 (.bool (!b1)))
 have HD1 := h_ (show Blk (w1.setCell ⟨w.heap.size, 3, none⟩ (.bool (!b1))) 196 w.heap.size (a1r false out (!b1) false false false) from by simpa using HDk.out.set 3 (.bool (!b1)))
 have HZ1 := h_ (HZk.out.other (p := ⟨w.heap.size, 3, none⟩) (by simp) (.bool (!b1)))
 have HG1 := h_ (f0x HGk.out (Nat.le_refl _) 3 (.bool (!b1)))
 clear hr hg HDk HZk HGk H1 HR0 HD0 HZ0 HG0
 go_wp2_with fail
 refine (H2.out _ HR1.out).mono ?_
 rintro e w2 ⟨rfl, hr, hg⟩
 have hz2 : w.heap.size + 1 < w2.heap.size := by have := hg.size; simp at this; omega
 have hd2 : w.heap.size < w2.heap.size := by omega
 have HDk := h_ (HD1.out.kept hg (by intro e; injection e; omega))
 have HZk := h_ (HZ1.out.kept hg (by intro e; injection e; omega))
 have HGk := h_ (a0a HG1.out hg)
 have d0_2 := HDk.out.cell 0
 have e1_2 := HDk.out.cell 4
 have f1_2 := HDk.out.free 4
 simp only [gz_, gs_] at e1_2 d0_2
 have HR2 := h_ (a0y.other hr (show r ≠ w.heap.size by omega) hpd 4 (.bool b2))
 have HD2 := h_ (show Blk (w2.setCell ⟨w.heap.size, 4, none⟩ (.bool b2)) 196 w.heap.size (a1r false out (!b1) b2 false false) from by simpa using HDk.out.set 4 (.bool b2))
 have HZ2 := h_ (HZk.out.other (p := ⟨w.heap.size, 4, none⟩) (by simp) (.bool b2))
 have HG2 := h_ (f0x HGk.out (Nat.le_refl _) 4 (.bool b2))
 clear hr hg HDk HZk HGk H2 HR1 HD1 HZ1 HG1
 go_wp2_with fail
 refine (H3.out _ HR2.out).mono ?_
 rintro e w3 ⟨rfl, hr, hg⟩
 have hz3 : w.heap.size + 1 < w3.heap.size := by have := hg.size; simp at this; omega
 have hd3 : w.heap.size < w3.heap.size := by omega
 have HDk := h_ (HD2.out.kept hg (by intro e; injection e; omega))
 have HZk := h_ (HZ2.out.kept hg (by intro e; injection e; omega))
 have HGk := h_ (a0a HG2.out hg)
 have d0_3 := HDk.out.cell 0
 have e1_3 := HDk.out.cell 5
 have f1_3 := HDk.out.free 5
 simp only [gz_, gs_] at e1_3 d0_3
 have HR3 := h_ (a0y.other hr (show r ≠ w.heap.size by omega) hpd 5 (.bool b3))
 have HD3 := h_ (show Blk (w3.setCell ⟨w.heap.size, 5, none⟩ (.bool b3)) 196 w.heap.size (a1r false out (!b1) b2 b3 false) from by simpa using HDk.out.set 5 (.bool b3))
 have HZ3 := h_ (HZk.out.other (p := ⟨w.heap.size, 5, none⟩) (by simp) (.bool b3))
 have HG3 := h_ (f0x HGk.out (Nat.le_refl _) 5 (.bool b3))
 clear hr hg HDk HZk HGk H3 HR2 HD2 HZ2 HG2
 go_wp2_with fail
 refine (H4.out _ HR3.out).mono ?_
 rintro e w4 ⟨rfl, hr, hg⟩
 have hz4 : w.heap.size + 1 < w4.heap.size := by have := hg.size; simp at this; omega
 have hd4 : w.heap.size < w4.heap.size := by omega
 have HDk := h_ (HD3.out.kept hg (by intro e; injection e; omega))
 have HZk := h_ (HZ3.out.kept hg (by intro e; injection e; omega))
 have HGk := h_ (a0a HG3.out hg)
 have d0_4 := HDk.out.cell 0
 have e1_4 := HDk.out.cell 6
 have f1_4 := HDk.out.free 6
 simp only [gz_, gs_] at e1_4 d0_4
 have HR4 := h_ (a0y.other hr (show r ≠ w.heap.size by omega) hpd 6 (.bool b4))
 have HD4 := h_ (show Blk (w4.setCell ⟨w.heap.size, 6, none⟩ (.bool b4)) 196 w.heap.size (a1r false out (!b1) b2 b3 b4) from by simpa using HDk.out.set 6 (.bool b4))
 have HZ4 := h_ (HZk.out.other (p := ⟨w.heap.size, 6, none⟩) (by simp) (.bool b4))
 have HG4 := h_ (f0x HGk.out (Nat.le_refl _) 6 (.bool b4))
 clear hr hg HDk HZk HGk H4 HR3 HD3 HZ3 HG3
 have c0 := HD4.out.cell 0
 have c1 := HD4.out.cell 1
 have c2 := HD4.out.cell 2
 have c3 := HD4.out.cell 3
 have c4 := HD4.out.cell 4
 have c5 := HD4.out.cell 5
 have c6 := HD4.out.cell 6
 have z0 := HZ4.out.cell 0
 have z1 := HZ4.out.cell 1
 have z2 := HZ4.out.cell 2
 have z3 := HZ4.out.cell 3
 have z4 := HZ4.out.cell 4
 have z5 := HZ4.out.cell 5
 have z6 := HZ4.out.cell 6
 have y0 := HZ4.out.free 0
 have y1 := HZ4.out.free 1
 have y2 := HZ4.out.free 2
 have y3 := HZ4.out.free 3
 have y4 := HZ4.out.free 4
 have y5 := HZ4.out.free 5
 have y6 := HZ4.out.free 6
 simp only [gz_, gs_] at c0 c1 c2 c3 c4 c5 c6 z0 z1 z2 z3 z4 z5 z6
 go_wp2_with fail
 refine bodyPost_ret (results_cell_row rfl _ _ (w.heap.size + 1) 196 #[.bool true, .bool false, .int .u64 out, .bool (!b1), .bool b2, .bool b3, .bool b4] (0, 0) _ rfl (o0i HZ4.out false out (!b1) b2 b3 b4) Tryz.underlying196 rfl (by kernel_rfl)) rfl ?_
 exact ⟨rfl, HR4.out.dset (by omega) hpz false out (!b1) b2 b3 b4, k0w HG4.out (by omega) false out (!b1) b2 b3 b4⟩
theorem x0s {r n : Nat} {p : Option Addr} {c : Nat} {tk : List Tk} {s : RS} (w : World) (hp : ∀ a, p = some a → a.block < w.heap.size) (h : a0y w r n p c tk s) :
  Calls Tryz.prog 132 #[.pointer (some ⟨r, 0, none⟩)] w fun e w' => e = .returned (.int .u64 (litV tk s).1) ∧ a0y w' r n p c tk (litV tk s).2 ∧ w.grownBy w' (some r) := by
 have hrl := h.lt
 have hpd : ∀ a, p = some a → a.block ≠ w.heap.size := fun a ha => by have := hp a ha; omega
 have hrd : r ≠ w.heap.size := by omega
 have HB := h_ (bl_ (Below.refl w.heap.size w) (.cells #[.bool false, .bool false, .int .u64 0, .bool false, .bool false, .bool false, .bool false] 196))
 have HR0 := h_ (h.below HB.out)
 have HG0 := h_ (a0b (row := some r) HB.out)
 have HD0 := h_ (show Blk (w.alloc (.cells #[.bool false, .bool false, .int .u64 0, .bool false, .bool false, .bool false, .bool false] 196)) 196 w.heap.size [.bool false, .bool false, .int .u64 0, .bool false, .bool false, .bool false, .bool false] from Blk.new w _ _)
 have HW := h_ (fun w1 (s : RS) t (hh : a0y w1 r n p c tk s) => m0l w1 t hh)
 have HNU := h_ (fun w1 (s : RS) (hh : a0y w1 r n p c tk s) => g0f w1 hh)
 have HFA := h_ (fun w1 (s : RS) x (hh : a0y w1 r n p c tk s) => e0j w1 x hh)
 have HLV := h_ (show litV tk s = if (wIsR tk s ⟨#[116, 111]⟩).1 then encR tk (a0c tk (wIsR tk s ⟨#[116, 111]⟩).2).2 (encD true (a0c tk (wIsR tk s ⟨#[116, 111]⟩).2).1 false false false false 1) else
  if (wIsR tk s ⟨#[98, 108, 111, 99, 107]⟩).1 then encR tk (c0n tk (a0c tk (wIsR tk s ⟨#[98, 108, 111, 99, 107]⟩).2).2).2 (encD false (a0c tk (wIsR tk s ⟨#[98, 108, 111, 99, 107]⟩).2).1 (c0n tk (a0c tk (wIsR tk s ⟨#[98, 108, 111, 99, 107]⟩).2).2).1.used (c0n tk (a0c tk (wIsR tk s ⟨#[98, 108, 111, 99, 107]⟩).2).2).1.ro (c0n tk (a0c tk (wIsR tk s ⟨#[98, 108, 111, 99, 107]⟩).2).2).1.user (c0n tk (a0c tk (wIsR tk s ⟨#[98, 108, 111, 99, 107]⟩).2).2).1.own 1) else
  if (wIsR tk s ⟨#[112, 97, 103, 101]⟩).1 then encR tk (c0n tk (a0c tk (wIsR tk s ⟨#[112, 97, 103, 101]⟩).2).2).2 (encD false (a0c tk (wIsR tk s ⟨#[112, 97, 103, 101]⟩).2).1 (c0n tk (a0c tk (wIsR tk s ⟨#[112, 97, 103, 101]⟩).2).2).1.used (c0n tk (a0c tk (wIsR tk s ⟨#[112, 97, 103, 101]⟩).2).2).1.ro (c0n tk (a0c tk (wIsR tk s ⟨#[112, 97, 103, 101]⟩).2).2).1.user (c0n tk (a0c tk (wIsR tk s ⟨#[112, 97, 103, 101]⟩).2).2).1.own 2) else a0c tk s from rfl)
 have HS := h_ (fun t (e : (wIsR tk s t).1 = false) => show (wIsR tk s t).2 = s by unfold wIsR at e ⊢; simp only at e ⊢; rw [e]; rfl)
 clear h HB
 go_enter Tryz.func132, Tryz.ntmps132
 go_wp2_with fail
 have HI1 := h_ (HW.out _ s ⟨#[116, 111]⟩ HR0.out)
 cases hb1 : (wIsR tk s ⟨#[116, 111]⟩).1
 ·have hS1 := HS.out ⟨#[116, 111]⟩ hb1
  rw [hb1, hS1] at HI1
  rw [hb1] at HLV
  clear hb1 hS1
  refine (HI1.out).mono ?_
  rintro e w1 ⟨rfl, hr, hg⟩
  have HR1 := h_ hr
  have HG1 := h_ (a0a HG0.out hg)
  have HD1 := h_ (HD0.out.kept hg (by intro e; injection e; omega))
  have hd1 := HD1.out.lt
  clear hr hg HR0 HG0 HD0
  clear HI1
  have HI2 := h_ (HW.out _ s ⟨#[98, 108, 111, 99, 107]⟩ HR1.out)
  cases hb2 : (wIsR tk s ⟨#[98, 108, 111, 99, 107]⟩).1
  ·have hS2 := HS.out ⟨#[98, 108, 111, 99, 107]⟩ hb2
   rw [hb2, hS2] at HI2
   rw [hb2] at HLV
   clear hb2 hS2
   go_wp2_with fail
   refine (HI2.out).mono ?_
   rintro e w2 ⟨rfl, hr, hg⟩
   have HR2 := h_ hr
   have HG2 := h_ (a0a HG1.out hg)
   have HD2 := h_ (HD1.out.kept hg (by intro e; injection e; omega))
   have hd2 := HD2.out.lt
   clear hr hg HR1 HG1 HD1
   clear HI2
   have HI3 := h_ (HW.out _ s ⟨#[112, 97, 103, 101]⟩ HR2.out)
   cases hb3 : (wIsR tk s ⟨#[112, 97, 103, 101]⟩).1
   ·have hS3 := HS.out ⟨#[112, 97, 103, 101]⟩ hb3
    rw [hb3, hS3] at HI3
    rw [hb3] at HLV
    clear hb3 hS3
    go_wp2_with fail
    refine (HI3.out).mono ?_
    rintro e w3 ⟨rfl, hr, hg⟩
    have HR3 := h_ hr
    have HG3 := h_ (a0a HG2.out hg)
    have HD3 := h_ (HD2.out.kept hg (by intro e; injection e; omega))
    have hd3 := HD3.out.lt
    clear hr hg HR2 HG2 HD2
    clear HI3
    have HM := h_ (show litV tk s = a0c tk s from HLV.out)
    have HN2 := h_ (HNU.out _ s HR3.out)
    generalize a0c tk s = y at *
    obtain ⟨v, s2⟩ := y
    go_wp2_with fail
    refine (HN2.out).mono ?_
    rintro e w9 ⟨rfl, hr, hg⟩
    have HG9 := h_ (a0a HG3.out hg)
    have HR9 := h_ hr
    clear hr hg
    go_wp2_with fail
    go_ret
    exact ⟨by rw [HM.out]; rfl, by rw [HM.out]; exact HR9.out, HG9.out⟩
   ·rw [hb3] at HLV HI3
    clear hb3
    go_wp2_with fail
    generalize (wIsR tk s ⟨#[112, 97, 103, 101]⟩).2 = s1 at *
    refine (HI3.out).mono ?_
    rintro e w3 ⟨rfl, hr, hg⟩
    have HR3 := h_ hr
    have HG3 := h_ (a0a HG2.out hg)
    have HD3 := h_ (HD2.out.kept hg (by intro e; injection e; omega))
    have hd3 := HD3.out.lt
    clear hr hg HR2 HG2 HD2
    clear HI3
    have HM := h_ (show litV tk s = encR tk (c0n tk (a0c tk s1).2).2 (encD false (a0c tk s1).1 (c0n tk (a0c tk s1).2).1.used (c0n tk (a0c tk s1).2).1.ro (c0n tk (a0c tk s1).2).1.user (c0n tk (a0c tk s1).2).1.own 2) from HLV.out)
    have HN2 := h_ (HNU.out _ s1 HR3.out)
    have hv := c0x tk s1
    generalize a0c tk s1 = y at *
    obtain ⟨v, s2⟩ := y
    simp only at HM hv
    clear HLV
    go_wp2_with fail
    refine (HN2.out).mono ?_
    rintro e w4 ⟨rfl, hr, hg⟩
    have HR4 := h_ hr
    have HG4 := h_ (a0a HG3.out hg)
    have HD4 := h_ (HD3.out.kept hg (by intro e; injection e; omega))
    have hd4 := HD4.out.lt
    clear hr hg HR3 HG3 HD3
    have HF2 := h_ (t0z w4 v (fun a ha => by have := hp a ha; omega) HR4.out)
    generalize c0n tk s2 = y at *
    obtain ⟨⟨fu, fr, fs, fo⟩, s3⟩ := y
    simp only at HM
    go_wp2_with fail
    refine (HF2.out).mono ?_
    rintro e w5 ⟨rfl, hr, hg⟩
    have HR5 := h_ hr
    have HG5 := h_ (a0a HG4.out hg)
    have HD5 := h_ (HD4.out.kept hg (by intro e; injection e; omega))
    have hd5 := HD5.out.lt
    clear hr hg HR4 HG4 HD4
    have z0 := HD5.out.cell 0
    have y0 := HD5.out.free 0
    have z1 := HD5.out.cell 1
    have y1 := HD5.out.free 1
    have z2 := HD5.out.cell 2
    have y2 := HD5.out.free 2
    have z3 := HD5.out.cell 3
    have y3 := HD5.out.free 3
    have z4 := HD5.out.cell 4
    have y4 := HD5.out.free 4
    have z5 := HD5.out.cell 5
    have y5 := HD5.out.free 5
    have z6 := HD5.out.cell 6
    have y6 := HD5.out.free 6
    simp only [gz_, gs_] at z0 z1 z2 z3 z4 z5 z6
    have HD6 := h_ (o0i HD5.out false v fu fr fs fo)
    have HR6 := h_ (HR5.out.dset hrd hpd false v fu fr fs fo)
    have HG6 := h_ (k0w HG5.out (Nat.le_refl _) false v fu fr fs fo)
    clear HR5 HG5 HD5
    have HE := h_ (fun w1 => enc_p2 v fu fr fs fo w1 hv)
    generalize encD false v fu fr fs fo 2 = x at *
    obtain ⟨x, code⟩ := x
    simp only at HM HE
    go_wp2_with fail
    refine (HE.out _).mono ?_
    rintro e w9 ⟨rfl, hb⟩
    have HR9 := h_ (HR6.out.below hb)
    have HG9 := h_ (a0a HG6.out (a0b hb))
    clear hb HD6 HR6 HG6 z0 z1 z2 z3 z4 z5 z6 y0 y1 y2 y3 y4 y5 y6
    by_cases hc : code = 0
    ·subst hc
     go_wp2_with fail
     go_ret
     exact ⟨by rw [HM.out]; rfl, by rw [HM.out]; exact HR9.out, HG9.out⟩
    ·have hcb : ((code : Int) != 0) = true := bne_iff_ne.2 (by omega)
     have HFF := h_ (HFA.out w9 _ (code : Nat) HR9.out)
     have HX := h_ hc
     clear hc
     go_wp2_with fail
     refine (HFF.out).mono ?_
     rintro e w10 ⟨rfl, hr, hg⟩
     have HG10 := h_ (a0a HG9.out hg)
     have HR10 := h_ hr
     clear hr hg
     go_wp2_with fail
     go_ret
     refine ⟨by rw [HM.out]; rfl, ?_, HG10.out⟩
     rw [HM.out]
     simp only [encR, if_neg HX.out]
     exact HR10.out
  ·rw [hb2] at HLV HI2
   clear hb2
   go_wp2_with fail
   generalize (wIsR tk s ⟨#[98, 108, 111, 99, 107]⟩).2 = s1 at *
   refine (HI2.out).mono ?_
   rintro e w2 ⟨rfl, hr, hg⟩
   have HR2 := h_ hr
   have HG2 := h_ (a0a HG1.out hg)
   have HD2 := h_ (HD1.out.kept hg (by intro e; injection e; omega))
   have hd2 := HD2.out.lt
   clear hr hg HR1 HG1 HD1
   clear HI2
   have HM := h_ (show litV tk s = encR tk (c0n tk (a0c tk s1).2).2 (encD false (a0c tk s1).1 (c0n tk (a0c tk s1).2).1.used (c0n tk (a0c tk s1).2).1.ro (c0n tk (a0c tk s1).2).1.user (c0n tk (a0c tk s1).2).1.own 1) from HLV.out)
   have HN2 := h_ (HNU.out _ s1 HR2.out)
   have hv := c0x tk s1
   generalize a0c tk s1 = y at *
   obtain ⟨v, s2⟩ := y
   simp only at HM hv
   clear HLV
   go_wp2_with fail
   refine (HN2.out).mono ?_
   rintro e w3 ⟨rfl, hr, hg⟩
   have HR3 := h_ hr
   have HG3 := h_ (a0a HG2.out hg)
   have HD3 := h_ (HD2.out.kept hg (by intro e; injection e; omega))
   have hd3 := HD3.out.lt
   clear hr hg HR2 HG2 HD2
   have HF2 := h_ (t0z w3 v (fun a ha => by have := hp a ha; omega) HR3.out)
   generalize c0n tk s2 = y at *
   obtain ⟨⟨fu, fr, fs, fo⟩, s3⟩ := y
   simp only at HM
   go_wp2_with fail
   refine (HF2.out).mono ?_
   rintro e w4 ⟨rfl, hr, hg⟩
   have HR4 := h_ hr
   have HG4 := h_ (a0a HG3.out hg)
   have HD4 := h_ (HD3.out.kept hg (by intro e; injection e; omega))
   have hd4 := HD4.out.lt
   clear hr hg HR3 HG3 HD3
   have z0 := HD4.out.cell 0
   have y0 := HD4.out.free 0
   have z1 := HD4.out.cell 1
   have y1 := HD4.out.free 1
   have z2 := HD4.out.cell 2
   have y2 := HD4.out.free 2
   have z3 := HD4.out.cell 3
   have y3 := HD4.out.free 3
   have z4 := HD4.out.cell 4
   have y4 := HD4.out.free 4
   have z5 := HD4.out.cell 5
   have y5 := HD4.out.free 5
   have z6 := HD4.out.cell 6
   have y6 := HD4.out.free 6
   simp only [gz_, gs_] at z0 z1 z2 z3 z4 z5 z6
   have HD5 := h_ (o0i HD4.out false v fu fr fs fo)
   have HR5 := h_ (HR4.out.dset hrd hpd false v fu fr fs fo)
   have HG5 := h_ (k0w HG4.out (Nat.le_refl _) false v fu fr fs fo)
   clear HR4 HG4 HD4
   have HE := h_ (fun w1 => enc_b1 v fu fr fs fo w1 hv)
   generalize encD false v fu fr fs fo 1 = x at *
   obtain ⟨x, code⟩ := x
   simp only at HM HE
   go_wp2_with fail
   refine (HE.out _).mono ?_
   rintro e w9 ⟨rfl, hb⟩
   have HR9 := h_ (HR5.out.below hb)
   have HG9 := h_ (a0a HG5.out (a0b hb))
   clear hb HD5 HR5 HG5 z0 z1 z2 z3 z4 z5 z6 y0 y1 y2 y3 y4 y5 y6
   by_cases hc : code = 0
   ·subst hc
    go_wp2_with fail
    go_ret
    exact ⟨by rw [HM.out]; rfl, by rw [HM.out]; exact HR9.out, HG9.out⟩
   ·have hcb : ((code : Int) != 0) = true := bne_iff_ne.2 (by omega)
    have HFF := h_ (HFA.out w9 _ (code : Nat) HR9.out)
    have HX := h_ hc
    clear hc
    go_wp2_with fail
    refine (HFF.out).mono ?_
    rintro e w10 ⟨rfl, hr, hg⟩
    have HG10 := h_ (a0a HG9.out hg)
    have HR10 := h_ hr
    clear hr hg
    go_wp2_with fail
    go_ret
    refine ⟨by rw [HM.out]; rfl, ?_, HG10.out⟩
    rw [HM.out]
    simp only [encR, if_neg HX.out]
    exact HR10.out
 ·rw [hb1] at HLV HI1
  clear hb1
  generalize (wIsR tk s ⟨#[116, 111]⟩).2 = s1 at *
  refine (HI1.out).mono ?_
  rintro e w1 ⟨rfl, hr, hg⟩
  have HR1 := h_ hr
  have HG1 := h_ (a0a HG0.out hg)
  have HD1 := h_ (HD0.out.kept hg (by intro e; injection e; omega))
  have hd1 := HD1.out.lt
  clear hr hg HR0 HG0 HD0
  clear HI1
  have HM := h_ (show litV tk s = encR tk (a0c tk s1).2 (encD true (a0c tk s1).1 false false false false 1) from HLV.out)
  have HN2 := h_ (HNU.out _ s1 HR1.out)
  have hv := c0x tk s1
  generalize a0c tk s1 = y at *
  obtain ⟨v, s2⟩ := y
  simp only at HM hv
  clear HLV
  go_wp2_with fail
  refine (HN2.out).mono ?_
  rintro e w2 ⟨rfl, hr, hg⟩
  have HR2 := h_ hr
  have HG2 := h_ (a0a HG1.out hg)
  have HD2 := h_ (HD1.out.kept hg (by intro e; injection e; omega))
  have hd2 := HD2.out.lt
  clear hr hg HR1 HG1 HD1
  have z0 := HD2.out.cell 0
  have y0 := HD2.out.free 0
  have z1 := HD2.out.cell 1
  have y1 := HD2.out.free 1
  have z2 := HD2.out.cell 2
  have y2 := HD2.out.free 2
  have z3 := HD2.out.cell 3
  have y3 := HD2.out.free 3
  have z4 := HD2.out.cell 4
  have y4 := HD2.out.free 4
  have z5 := HD2.out.cell 5
  have y5 := HD2.out.free 5
  have z6 := HD2.out.cell 6
  have y6 := HD2.out.free 6
  simp only [gz_, gs_] at z0 z1 z2 z3 z4 z5 z6
  have HD3 := h_ (o0i HD2.out true v false false false false)
  have HR3 := h_ (HR2.out.dset hrd hpd true v false false false false)
  have HG3 := h_ (k0w HG2.out (Nat.le_refl _) true v false false false false)
  clear HR2 HG2 HD2
  have HE := h_ (fun w1 => enc_t1 v w1 hv)
  generalize encD true v false false false false 1 = x at *
  obtain ⟨x, code⟩ := x
  simp only at HM HE
  go_wp2_with fail
  refine (HE.out _).mono ?_
  rintro e w9 ⟨rfl, hb⟩
  have HR9 := h_ (HR3.out.below hb)
  have HG9 := h_ (a0a HG3.out (a0b hb))
  clear hb HD3 HR3 HG3 z0 z1 z2 z3 z4 z5 z6 y0 y1 y2 y3 y4 y5 y6
  by_cases hc : code = 0
  ·subst hc
   go_wp2_with fail
   go_ret
   exact ⟨by rw [HM.out]; rfl, by rw [HM.out]; exact HR9.out, HG9.out⟩
  ·have hcb : ((code : Int) != 0) = true := bne_iff_ne.2 (by omega)
   have HFF := h_ (HFA.out w9 _ (code : Nat) HR9.out)
   have HX := h_ hc
   clear hc
   go_wp2_with fail
   refine (HFF.out).mono ?_
   rintro e w10 ⟨rfl, hr, hg⟩
   have HG10 := h_ (a0a HG9.out hg)
   have HR10 := h_ hr
   clear hr hg
   go_wp2_with fail
   go_ret
   refine ⟨by rw [HM.out]; rfl, ?_, HG10.out⟩
   rw [HM.out]
   simp only [encR, if_neg HX.out]
   exact HR10.out
end
section
open Go.RowKit
theorem ST.after {w : World} {f : Nat → Nat} {B g n : Nat} {x : SrcA} {v : SrcV} (h : ST w f B g n x v) : w.cell? ⟨g, 16, none⟩ = some (.int .i64 (x.after : Nat)) := h.blk.cell 16
theorem a1p {f : Nat → Nat} {w w' : World} {r : Nat} (hg : w.grownBy w' (some r)) (hr : f r = lab 14 0) : GL f (fun l => l ≠ 0) w w' := GL.ofRow hg (fun k hk => by injection hk with hk; subst hk; rw [hr]; decide)
theorem u0e {w : World} {f : Nat → Nat} {B g n r : Nat} {x : SrcA} {v : SrcV} (hS : ST w f B g n x v) (at_ : Int) (ha : x.after = 1) :
  Calls Tryz.prog 129 #[.pointer (some ⟨g, 0, none⟩), .pointer (some ⟨r, 0, none⟩), .int .i64 at_] w fun e w' => e = .returned (.bool true) ∧ w = w' := by
 have c16 := hS.after
 rw [ha] at c16
 have hgl := hS.lt
 clear hS ha
 go_enter Tryz.func129, Tryz.ntmps129
 go_wp2_with fail
 go_ret
 exact ⟨rfl, rfl⟩
theorem y0a {w : World} {f : Nat → Nat} {B g n r tn : Nat} {p : Option Addr} {c : Nat} {tk : List Tk} {s : RS} {x : SrcA} {v : SrcV} (hS : ST w f B g n x v) (hR : RdrL w f r tn p c tk s) (at_ : Int) (ha : ¬ x.after = 1) :
  Calls Tryz.prog 129 #[.pointer (some ⟨g, 0, none⟩), .pointer (some ⟨r, 0, none⟩), .int .i64 at_] w fun e w' => e = .returned (.bool false) ∧ a0y w' r tn p c tk (e0b s 110 at_) ∧ w.grownBy w' (some r) := by
 have c16 := hS.after
 have hgl := hS.lt
 have HF := h_ (p0n w 110 at_ hR.1)
 have hab : ((x.after : Int) == 1) = false := beq_eq_false_iff_ne.2 (by omega)
 clear hS ha hR
 go_enter Tryz.func129, Tryz.ntmps129
 go_wp2_with fail
 refine (HF.out).mono ?_
 rintro e w2 ⟨rfl, hr, hg⟩
 have HR := h_ hr
 have HG := h_ hg
 clear hr hg HF
 go_wp2_with fail
 go_ret
 exact ⟨rfl, HR.out, HG.out⟩
theorem w0e {w : World} {f : Nat → Nat} {B g n r tn : Nat} {p : Option Addr} {c : Nat} {tk : List Tk} {s : RS} {x : SrcA} {v : SrcV} (hS : ST w f B g n x v) (hR : RdrL w f r tn p c tk s) (at_ : Int) :
  Calls Tryz.prog 97 #[.pointer (some ⟨g, 0, none⟩), .pointer (some ⟨r, 0, none⟩), .int .i64 at_] w (d0d w f B g n r tn p c tk (t0w x s at_)) := by
 have c16 := hS.after
 have f16 := hS.blk.free 16
 have hgl := hS.lt
 have HS := h_ hS
 have HR := h_ hR
 have HM := h_ (show t0w x s at_ = ({ x with after := 3 }, if x.after = 2 then s else e0b s 110 at_) from rfl)
 by_cases ha : x.after = 2
 ·have HS2 := h_ (HS.out.put (x' := { x with after := 3 }) (v' := v) (n' := n) (j := 16) (u := .int .i64 3) rfl ⟨hS.parts.cells, hS.parts.cores, hS.parts.lenc, hS.parts.core, hS.parts.cond, hS.parts.tables, hS.parts.pT, hS.parts.pC, hS.parts.pCo, hS.parts.pI, hS.parts.leni, hS.parts.ins⟩ ⟨hS.sizes.cells, hS.sizes.cores, hS.sizes.tables, hS.sizes.pT, hS.sizes.pC, hS.sizes.pCo, hS.sizes.pI, hS.sizes.ins, hS.sizes.code⟩ hS.small)
  have HR2 := h_ (HR.out.set HS.out.lg 16 (.int .i64 3))
  have HX := h_ (show t0w x s at_ = ({ x with after := 3 }, s) by rw [HM.out, if_pos ha])
  rw [ha] at c16
  clear hS hR ha
  go_enter Tryz.func97, Tryz.ntmps97
  go_wp2_with fail
  go_end0
  exact ⟨rfl, by rw [HX.out]; exact ⟨f, v, HS2.out, HR2.out, fun _ _ => rfl, (GL.refl f _ w).set (by rw [HS.out.lg]; decide) 16 _⟩⟩
 ·have hab : ((x.after : Int) != 2) = true := bne_iff_ne.2 (by omega)
  have HF := h_ (p0n w 110 at_ hR.1)
  have HX := h_ (show t0w x s at_ = ({ x with after := 3 }, e0b s 110 at_) by rw [HM.out, if_neg ha])
  clear hS hR ha
  go_enter Tryz.func97, Tryz.ntmps97
  go_wp2_with fail
  refine (HF.out).mono ?_
  rintro e w2 ⟨rfl, hr, hg⟩
  have hS := HS.out.rd hg HR.out.2.1
  have HR2 := h_ ((HR.out.step hr hg).set hS.lg 16 (.int .i64 3))
  have HG2 := h_ ((a1p hg HR.out.2.1).set (show f g ≠ 0 by rw [hS.lg]; decide) 16 (.int .i64 3))
  have HS2 := h_ (hS.put (x' := { x with after := 3 }) (v' := v) (n' := n) (j := 16) (u := .int .i64 3) rfl ⟨hS.parts.cells, hS.parts.cores, hS.parts.lenc, hS.parts.core, hS.parts.cond, hS.parts.tables, hS.parts.pT, hS.parts.pC, hS.parts.pCo, hS.parts.pI, hS.parts.leni, hS.parts.ins⟩ ⟨hS.sizes.cells, hS.sizes.cores, hS.sizes.tables, hS.sizes.pT, hS.sizes.pC, hS.sizes.pCo, hS.sizes.pI, hS.sizes.ins, hS.sizes.code⟩ hS.small)
  have d16 := hS.after
  have e16 := hS.blk.free 16
  have hgl2 := hS.lt
  clear hr hg HF hS c16 f16
  go_wp2_with fail
  go_end0
  exact ⟨rfl, by rw [HX.out]; exact ⟨f, v, HS2.out, HR2.out, fun _ _ => rfl, HG2.out⟩⟩
theorem g1t {w : World} {f : Nat → Nat} {B g n r tn : Nat} {p : Option Addr} {c : Nat} {tk : List Tk} {s : RS} {x : SrcA} {v : SrcV} (hS : ST w f B g n x v) (hR : RdrL w f r tn p c tk s) :
  Calls Tryz.prog 92 #[.pointer (some ⟨g, 0, none⟩), .pointer (some ⟨r, 0, none⟩)] w (d0d w f B g n r tn p c tk (r0p tk x s)) := by
 have HS := h_ hS
 have HR := h_ hR
 have HP := h_ (d0t w hR.1)
 have hrl := hR.1.lt
 have HM := h_ (show r0p tk x s = ({ x with name := (a0p tk s).2.1, after := 1 }, a0v tk (if (a0p tk s).1 = 1 then s else e0e tk s 110)) from rfl)
 clear hS hR
 generalize a0p tk s = t at *
 obtain ⟨tk1, tt, ta⟩ := t
 simp only [tkV] at HP
 simp only at HM
 go_enter Tryz.func92, Tryz.ntmps92
 go_wp2_with fail
 refine (HP.out).mono ?_
 rintro e w2 ⟨rfl, hb⟩
 have hz := hb.size
 have HB := h_ (bl_ hb (.cells #[.int .i64 tk1, .string tt, .int .i64 ta] 147))
 have HT2 := h_ (show Blk (w2.alloc (.cells #[.int .i64 tk1, .string tt, .int .i64 ta] 147)) 147 w2.heap.size [.int .i64 tk1, .string tt, .int .i64 ta] from Blk.new w2 _ _)
 have HS2 := h_ (HS.out.below HB.out)
 have HR2 := h_ (HR.out.below HB.out)
 have HG2 := h_ (GL.ofBelow (f := f) (L := fun l => l ≠ 0) HB.out)
 clear hb HP
 by_cases hk : tk1 = 1
 ·have HX := h_ (show r0p tk x s = ({ x with name := tt, after := 1 }, a0v tk s) by rw [HM.out, if_pos hk])
  subst hk
  have HN := h_ (g0q _ HR2.out.1)
  go_wp2_with fail
  refine (HN.out).mono ?_
  rintro e w9 ⟨rfl, hr, hg⟩
  have HS9 := h_ (HS2.out.rd hg HR2.out.2.1)
  have HR9 := h_ (HR2.out.step hr hg)
  have HG9 := h_ (HG2.out.trans (a1p hg HR2.out.2.1) (fun _ _ => rfl))
  have HT9 := h_ (HT2.out.kept hg (by intro e; injection e; omega))
  clear hr hg HN
  have HSa := h_ (HS9.out.put (x' := { x with name := tt }) (v' := v) (n' := n) (j := 0) (u := .string tt) rfl ⟨HS9.out.parts.cells, HS9.out.parts.cores, HS9.out.parts.lenc, HS9.out.parts.core, HS9.out.parts.cond, HS9.out.parts.tables, HS9.out.parts.pT, HS9.out.parts.pC, HS9.out.parts.pCo, HS9.out.parts.pI, HS9.out.parts.leni, HS9.out.parts.ins⟩ ⟨HS9.out.sizes.cells, HS9.out.sizes.cores, HS9.out.sizes.tables, HS9.out.sizes.pT, HS9.out.sizes.pC, HS9.out.sizes.pCo, HS9.out.sizes.pI, HS9.out.sizes.ins, HS9.out.sizes.code⟩ HS9.out.small)
  have HSb := h_ (HSa.out.put (x' := { x with name := tt, after := 1 }) (v' := v) (n' := n) (j := 16) (u := .int .i64 1) rfl ⟨HSa.out.parts.cells, HSa.out.parts.cores, HSa.out.parts.lenc, HSa.out.parts.core, HSa.out.parts.cond, HSa.out.parts.tables, HSa.out.parts.pT, HSa.out.parts.pC, HSa.out.parts.pCo, HSa.out.parts.pI, HSa.out.parts.leni, HSa.out.parts.ins⟩ ⟨HSa.out.sizes.cells, HSa.out.sizes.cores, HSa.out.sizes.tables, HSa.out.sizes.pT, HSa.out.sizes.pC, HSa.out.sizes.pCo, HSa.out.sizes.pI, HSa.out.sizes.ins, HSa.out.sizes.code⟩ HSa.out.small)
  have HRb := h_ ((HR9.out.set HS9.out.lg 0 (.string tt)).set HS9.out.lg 16 (.int .i64 1))
  have HGb := h_ ((HG9.out.set (show f g ≠ 0 by rw [HS9.out.lg]; decide) 0 (.string tt)).set (show f g ≠ 0 by rw [HS9.out.lg]; decide) 16 (.int .i64 1))
  have c0 := HS9.out.blk.cell 0
  have c16 := HS9.out.after
  have f0 := HS9.out.blk.free 0
  have f16 := HS9.out.blk.free 16
  have hgl := HS9.out.lt
  simp only [stC, gz_] at c0
  have t1 := HT9.out.cell 1
  simp only [gz_, gs_] at t1
  have htl := HT9.out.lt
  go_wp2_with fail
  go_end0
  exact ⟨rfl, by rw [HX.out]; exact ⟨f, v, HSb.out, HRb.out, fun _ _ => rfl, HGb.out⟩⟩
 ·have HX := h_ (show r0p tk x s = ({ x with name := tt, after := 1 }, a0v tk (e0e tk s 110)) by rw [HM.out, if_neg hk])
  have hkb : (tk1 != 1) = true := bne_iff_ne.2 hk
  have HF := h_ (e0j _ 110 HR2.out.1)
  clear hk
  go_wp2_with fail
  refine (HF.out).mono ?_
  rintro e w5 ⟨rfl, hr, hg⟩
  have HS5 := h_ (HS2.out.rd hg HR2.out.2.1)
  have HR5 := h_ (HR2.out.step hr hg)
  have HG5 := h_ (HG2.out.trans (a1p hg HR2.out.2.1) (fun _ _ => rfl))
  have HT5 := h_ (HT2.out.kept hg (by intro e; injection e; omega))
  clear hr hg HF
  have HN := h_ (g0q w5 HR5.out.1)
  go_wp2_with fail
  refine (HN.out).mono ?_
  rintro e w9 ⟨rfl, hr, hg⟩
  have HS9 := h_ (HS5.out.rd hg HR5.out.2.1)
  have HR9 := h_ (HR5.out.step hr hg)
  have HG9 := h_ (HG5.out.trans (a1p hg HR5.out.2.1) (fun _ _ => rfl))
  have HT9 := h_ (HT5.out.kept hg (by intro e; injection e; omega))
  clear hr hg HN
  have HSa := h_ (HS9.out.put (x' := { x with name := tt }) (v' := v) (n' := n) (j := 0) (u := .string tt) rfl ⟨HS9.out.parts.cells, HS9.out.parts.cores, HS9.out.parts.lenc, HS9.out.parts.core, HS9.out.parts.cond, HS9.out.parts.tables, HS9.out.parts.pT, HS9.out.parts.pC, HS9.out.parts.pCo, HS9.out.parts.pI, HS9.out.parts.leni, HS9.out.parts.ins⟩ ⟨HS9.out.sizes.cells, HS9.out.sizes.cores, HS9.out.sizes.tables, HS9.out.sizes.pT, HS9.out.sizes.pC, HS9.out.sizes.pCo, HS9.out.sizes.pI, HS9.out.sizes.ins, HS9.out.sizes.code⟩ HS9.out.small)
  have HSb := h_ (HSa.out.put (x' := { x with name := tt, after := 1 }) (v' := v) (n' := n) (j := 16) (u := .int .i64 1) rfl ⟨HSa.out.parts.cells, HSa.out.parts.cores, HSa.out.parts.lenc, HSa.out.parts.core, HSa.out.parts.cond, HSa.out.parts.tables, HSa.out.parts.pT, HSa.out.parts.pC, HSa.out.parts.pCo, HSa.out.parts.pI, HSa.out.parts.leni, HSa.out.parts.ins⟩ ⟨HSa.out.sizes.cells, HSa.out.sizes.cores, HSa.out.sizes.tables, HSa.out.sizes.pT, HSa.out.sizes.pC, HSa.out.sizes.pCo, HSa.out.sizes.pI, HSa.out.sizes.ins, HSa.out.sizes.code⟩ HSa.out.small)
  have HRb := h_ ((HR9.out.set HS9.out.lg 0 (.string tt)).set HS9.out.lg 16 (.int .i64 1))
  have HGb := h_ ((HG9.out.set (show f g ≠ 0 by rw [HS9.out.lg]; decide) 0 (.string tt)).set (show f g ≠ 0 by rw [HS9.out.lg]; decide) 16 (.int .i64 1))
  have c0 := HS9.out.blk.cell 0
  have c16 := HS9.out.after
  have f0 := HS9.out.blk.free 0
  have f16 := HS9.out.blk.free 16
  have hgl := HS9.out.lt
  simp only [stC, gz_] at c0
  have t1 := HT9.out.cell 1
  simp only [gz_, gs_] at t1
  have htl := HT9.out.lt
  go_wp2_with fail
  go_end0
  exact ⟨rfl, by rw [HX.out]; exact ⟨f, v, HSb.out, HRb.out, fun _ _ => rfl, HGb.out⟩⟩
theorem o1e {w : World} {f : Nat → Nat} {B g n : Nat} {x : SrcA} {v : SrcV} (hS : ST w f B g n x v) {t : CT} {a b c d e h : Value} (ht : CT.At w (fun g => f g = lab 8 0 ∧ g < w.heap.size) t [a, b, c, d, e, h]) (at_ : Int) :
  ∃ v', ST ((((((((w.setCell ⟨g, 4, none⟩ a).setCell ⟨g, 5, none⟩ b).setCell ⟨g, 6, none⟩ c).setCell ⟨g, 7, none⟩ d).setCell ⟨g, 8, none⟩ e).setCell ⟨g, 9, none⟩ h).setCell ⟨g, 15, none⟩ (.int .i64 at_)).setCell ⟨g, 16, none⟩ (.int .i64 4)) f B g n { x with cond := t, pCond := at_, after := 4 } v' := by
 obtain ⟨v', hv'⟩ : ∃ v' : SrcV, v' = { v with k0 := a, k1 := b, k2 := c, k3 := d, k4 := e, k5 := h } := ⟨_, rfl⟩
 have hG : GL f (fun l => l = lab 9 0) w ((((((((w.setCell ⟨g, 4, none⟩ a).setCell ⟨g, 5, none⟩ b).setCell ⟨g, 6, none⟩ c).setCell ⟨g, 7, none⟩ d).setCell ⟨g, 8, none⟩ e).setCell ⟨g, 9, none⟩ h).setCell ⟨g, 15, none⟩ (.int .i64 at_)).setCell ⟨g, 16, none⟩ (.int .i64 4)) :=
  ((((((((GL.refl f _ w).set hS.lg 4 _).set hS.lg 5 _).set hS.lg 6 _).set hS.lg 7 _).set hS.lg 8 _).set hS.lg 9 _).set hS.lg 15 _).set hS.lg 16 _
 have hB := (((((((hS.blk.set 4 a).set 5 b).set 6 c).set 7 d).set 8 e).set 9 h).set 15 (.int .i64 at_)).set 16 (.int .i64 4)
 have p0 : Parts w f B { x with cond := t, pCond := at_, after := 4 } { v with k0 := a, k1 := b, k2 := c, k3 := d, k4 := e, k5 := h } := ⟨hS.parts.cells, hS.parts.cores, hS.parts.lenc, hS.parts.core, ht, hS.parts.tables, hS.parts.pT, hS.parts.pC, hS.parts.pCo, hS.parts.pI, hS.parts.leni, hS.parts.ins⟩
 have p := p0.but (f' := f) hG (fun _ _ => rfl)
 have ne : ∀ k i, 1 ≤ k → k ≤ 13 → k ≠ 9 → ¬ lab k i = lab 9 0 := fun k i h1 h2 h3 => by unfold lab; omega
 refine ⟨{ v with k0 := a, k1 := b, k2 := c, k3 := d, k4 := e, k5 := h }, ?_, hS.lg, hS.le, ⟨p.cells (ne 6 0 (by decide) (by decide) (by decide)), p.cores (ne 7 0 (by decide) (by decide) (by decide)), p.lenc, fun i h1 h2 => ⟨(p.core i h1 h2).1 (ne 10 i (by decide) (by decide) (by decide)), (p.core i h1 h2).2.1 (ne 11 i (by decide) (by decide) (by decide)), (p.core i h1 h2).2.2 (ne 12 i (by decide) (by decide) (by decide))⟩, p.cond (ne 8 0 (by decide) (by decide) (by decide)), p.tables (ne 1 0 (by decide) (by decide) (by decide)), p.pT (ne 2 0 (by decide) (by decide) (by decide)), p.pC (ne 3 0 (by decide) (by decide) (by decide)), p.pCo (ne 4 0 (by decide) (by decide) (by decide)), p.pI (ne 5 0 (by decide) (by decide) (by decide)), p.leni, fun i h1 h2 => p.ins i h1 h2 (ne 13 i (by decide) (by decide) (by decide))⟩, ⟨hS.sizes.cells, hS.sizes.cores, hS.sizes.tables, hS.sizes.pT, hS.sizes.pC, hS.sizes.pCo, hS.sizes.pI, hS.sizes.ins, hS.sizes.code⟩, hS.small⟩
 simpa [stC] using hB
theorem u0k {w : World} {f : Nat → Nat} {B g n r tn : Nat} {p : Option Addr} {c : Nat} {tk : List Tk} {s : RS} {x : SrcA} {v : SrcV} (hS : ST w f B g n x v) (hR : RdrL w f r tn p c tk s) (fa : Bool) (at_ : Int) :
  Calls Tryz.prog 98 #[.pointer (some ⟨g, 0, none⟩), .pointer (some ⟨r, 0, none⟩), .bool fa, .int .i64 at_] w (d0d w f B g n r tn p c tk (a1x tk x s fa at_)) := by
 have HX := h_ (show a1x tk x s fa at_ = ({ x with fa := fa, cond := (h0d tk s).1, pCond := at_, after := 4 }, (h0d tk s).2) from rfl)
 have hrl := hR.1.lt
 have HSa := h_ (hS.put (x' := { x with fa := fa }) (v' := v) (n' := n) (j := 3) (u := .bool fa) rfl ⟨hS.parts.cells, hS.parts.cores, hS.parts.lenc, hS.parts.core, hS.parts.cond, hS.parts.tables, hS.parts.pT, hS.parts.pC, hS.parts.pCo, hS.parts.pI, hS.parts.leni, hS.parts.ins⟩ ⟨hS.sizes.cells, hS.sizes.cores, hS.sizes.tables, hS.sizes.pT, hS.sizes.pC, hS.sizes.pCo, hS.sizes.pI, hS.sizes.ins, hS.sizes.code⟩ hS.small)
 have HRa := h_ (hR.set hS.lg 3 (.bool fa))
 have HGa := h_ ((GL.refl f (fun l => l ≠ 0) w).set (show f g ≠ 0 by rw [hS.lg]; decide) 3 (.bool fa))
 have HC := h_ (a1t _ HRa.out.1 HRa.out.pw)
 have c3 := hS.blk.cell 3
 have f3 := hS.blk.free 3
 have hgl := hS.lt
 simp only [stC, gz_, gs_] at c3
 clear hS hR
 generalize h0d tk s = y at *
 obtain ⟨ct, s2⟩ := y
 simp only at HX
 go_enter Tryz.func98, Tryz.ntmps98
 go_wp2_with fail
 refine (HC.out).mono ?_
 rintro e w2 ⟨cs, rfl, ht, hr, hg⟩
 obtain ⟨k1, co1, rg1, ad1, va1, p1, l1, cp1, rfl⟩ := ht.cells
 have hz := hg.size
 have hz0 : w.heap.size ≤ w2.heap.size := by simpa using hz
 obtain ⟨f2, hf2⟩ : ∃ f2 : Nat → Nat, f2 = fun i => if w.heap.size ≤ i then lab 8 0 else f i := ⟨_, rfl⟩
 have ha2 : ∀ i, i < w.heap.size → f2 i = f i := fun i hi => by rw [hf2]; exact if_neg (by omega)
 have hb2 : ∀ i, w.heap.size ≤ i → f2 i = lab 8 0 := fun i hi => by rw [hf2]; exact if_pos hi
 clear hf2
 have HA2 := h_ ha2
 have ha3 : ∀ i, i < (w.setCell ⟨g, 3, none⟩ (.bool fa)).heap.size → f2 i = f i := fun i hi => ha2 i (by simpa using hi)
 have HT := h_ (ht.sub (S' := fun g => f2 g = lab 8 0 ∧ g < w2.heap.size) (fun g h1 h2 => ⟨hb2 g (by simpa using h1), h2⟩))
 have hS2 := HSa.out.gl (f' := f2) (L := fun l => l = lab 14 0) (GL.ofRow hg (fun k hk => by injection hk with hk; subst hk; exact HRa.out.2.1)) ha3 (fun l hl => by subst hl; right; decide)
 have hR2 := HRa.out.step hr hg
 have HR2 := h_ (show RdrL w2 f2 r tn p c tk s2 from ⟨hR2.1, by rw [ha2 r hrl]; exact hR2.2.1, fun a ha => ⟨by rw [ha3 _ (HRa.out.pw a ha)]; exact (hR2.2.2 a ha).1, (hR2.2.2 a ha).2⟩⟩)
 have HS2 := h_ hS2
 have HG2 := h_ (HGa.out.trans (a1p hg HRa.out.2.1) (fun _ _ => rfl))
 have hfg : f2 g = lab 9 0 := hS2.lg
 have HFG := h_ hfg
 have HFO := h_ (show f g ≠ 0 by rw [← ha2 g hgl, hfg]; decide)
 have d4 := hS2.blk.cell 4
 have d5 := hS2.blk.cell 5
 have d6 := hS2.blk.cell 6
 have d7 := hS2.blk.cell 7
 have d8 := hS2.blk.cell 8
 have d9 := hS2.blk.cell 9
 have d15 := hS2.blk.cell 15
 have d16 := hS2.after
 simp only [stC, gz_, gs_] at d4 d5 d6 d7 d8 d9 d15
 have e4 := hS2.blk.free 4
 have e5 := hS2.blk.free 5
 have e6 := hS2.blk.free 6
 have e7 := hS2.blk.free 7
 have e8 := hS2.blk.free 8
 have e9 := hS2.blk.free 9
 have e15 := hS2.blk.free 15
 have e16 := hS2.blk.free 16
 have hgl2 := hS2.lt
 have HSP := h_ (o1e hS2 HT.out at_)
 clear hr hg ht hS2 hR2 HC hz ha2 hb2 ha3 hfg c3 f3
 go_wp2_with fail
 go_end0
 refine ⟨rfl, ?_⟩
 rw [HX.out]
 obtain ⟨v', hv'⟩ := HSP.out
 have hRx := ((((((((HR2.out.set HFG.out 4 (.int .i64 k1)).set HFG.out 5 (.int .i64 co1)).set HFG.out 6 (.int .i64 rg1)).set HFG.out 7 (.int .u64 ad1)).set HFG.out 8 (.int .u64 va1)).set HFG.out 9 (.slice p1 l1 cp1)).set HFG.out 15 (.int .i64 at_)).set HFG.out 16 (.int .i64 4))
 have hGx := ((((((((HG2.out.set HFO.out 4 (.int .i64 k1)).set HFO.out 5 (.int .i64 co1)).set HFO.out 6 (.int .i64 rg1)).set HFO.out 7 (.int .u64 ad1)).set HFO.out 8 (.int .u64 va1)).set HFO.out 9 (.slice p1 l1 cp1)).set HFO.out 15 (.int .i64 at_)).set HFO.out 16 (.int .i64 4))
 exact ⟨f2, v', hv', hRx, HA2.out, hGx⟩
end
end Go.Proofs.YtmnojnopejhebaaGreat
