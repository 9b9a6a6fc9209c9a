/- An instruction's parts, read. -/
import Derived.Test.YtmnojnopejhebaaGreatMgah
import Derived.Test.YtmnojnopejhebaaGreatMgao
namespace Go.Proofs.YtmnojnopejhebaaGreat
set_option linter.unusedVariables false
set_option linter.unusedSimpArgs false
set_option maxRecDepth 100000
set_option maxHeartbeats 25600000
section
open Go.RowKit
def insV (x : Ins) : Value := b0o x.op x.d x.n x.m x.imm x.kind
theorem b0v {w w' : World} {row : Option Nat} {g : Nat} (h : w.grownBy w' row) (hg : w.heap.size ≤ g) (j : Nat) (v : Value) : w.grownBy (w'.setCell ⟨g, j, none⟩ v) row :=
 ⟨h.os, h.tape, h.output, by simpa using h.size, fun k hk hne => (Below.heap_setCell _ _ _ k (by simp; omega)).trans (h.block k hk hne)⟩
abbrev iset (w : World) (g : Nat) (x : Ins) : World := (((((w.setCell ⟨g, 0, none⟩ (.int .i64 x.op)).setCell ⟨g, 1, none⟩ (.int .i64 x.d)).setCell ⟨g, 2, none⟩ (.int .i64 x.n)).setCell ⟨g, 3, none⟩ (.int .i64 x.m)).setCell ⟨g, 4, none⟩ (.int .i64 x.imm)).setCell ⟨g, 5, none⟩ (.int .i64 x.kind)
theorem b0k {w : World} {g : Nat} {a b c d e f : Int} (h : Blk w 91 g (b0r a b c d e f)) (x : Ins) : Blk (iset w g x) 91 g (b0r x.op x.d x.n x.m x.imm x.kind) := by
 simpa [b0r] using (((((h.set 0 (.int .i64 x.op)).set 1 (.int .i64 x.d)).set 2 (.int .i64 x.n)).set 3 (.int .i64 x.m)).set 4 (.int .i64 x.imm)).set 5 (.int .i64 x.kind)
theorem ARd.other6 {w : World} {r G : Nat} {s : AS} (h : ARd w r G s) {B : Nat} (hB : G ≤ B) (hr : r ≠ B) (x : Ins) : ARd (iset w B x) r G s :=
 (((((h.other hB hr 0 _).other hB hr 1 _).other hB hr 2 _).other hB hr 3 _).other hB hr 4 _).other hB hr 5 _
theorem a0x {w w' : World} {row : Option Nat} {g : Nat} (h : w.grownBy w' row) (hg : w.heap.size ≤ g) (x : Ins) : w.grownBy (iset w' g x) row :=
 b0v (b0v (b0v (b0v (b0v (b0v h hg 0 _) hg 1 _) hg 2 _) hg 3 _) hg 4 _) hg 5 _
theorem a0g {w : World} {g : Nat} {op d n m imm kind : Int} (h : Blk w 91 g (b0r op d n m imm kind)) : w.frozen? ⟨g, 0, none⟩ = false ∧ w.frozen? ⟨g, 1, none⟩ = false ∧ w.frozen? ⟨g, 2, none⟩ = false ∧ w.frozen? ⟨g, 3, none⟩ = false ∧ w.frozen? ⟨g, 4, none⟩ = false ∧ w.frozen? ⟨g, 5, none⟩ = false := ⟨h.free 0, h.free 1, h.free 2, h.free 3, h.free 4, h.free 5⟩
theorem j0v {r G : Nat} {s : AS} (w : World) (op : Int) (h : ARd w r G s) :
  Calls Tryz.prog 158 #[.pointer (some ⟨r, 0, none⟩), .int .i64 op] w (g0m r G w insV (g0g s op)) := by
 have hrl := h.lt
 have hGw := h.G_le
 have HA1 := h_ (a0u w 0 0 0 0 0 0)
 have HR1 := h_ (h.below (bl_ (Below.refl _ _) (.cells #[.int .i64 0, .int .i64 0, .int .i64 0, .int .i64 0, .int .i64 0, .int .i64 0] 91)))
 have HG1 := h_ (a0b (row := some r) (bl_ (Below.refl w.heap.size w) (.cells #[.int .i64 0, .int .i64 0, .int .i64 0, .int .i64 0, .int .i64 0, .int .i64 0] 91)))
 have hrA : r ≠ w.heap.size := by omega
 clear h
 go_enter Tryz.func158, Tryz.ntmps158
 have HC2 := h_ (e0r _ HR1.out)
 go_wp2_with fail
 refine (HC2.out).mono ?_
 rintro e w2 ⟨rfl, hr, hg⟩
 have HR2 := h_ hr
 have HG2 := h_ (a0a HG1.out hg)
 have HA2 := h_ (HA1.out.kept hg (by intro e; injection e; omega))
 have hz2 := HA2.out.lt
 clear hr hg HC2 HR1 HG1 HA1
 (try simp only [intV, e0n])
 have HB3 := h_ (a0u w2 op (regA s).1 0 0 0 0)
 have HR3 := h_ (HR2.out.below (bl_ (Below.refl (w2).heap.size w2) (.cells #[.int .i64 op, .int .i64 (regA s).1, .int .i64 0, .int .i64 0, .int .i64 0, .int .i64 0] 91)))
 have HG3 := h_ (a0a HG2.out (a0b (bl_ (Below.refl (w2).heap.size w2) (.cells #[.int .i64 op, .int .i64 (regA s).1, .int .i64 0, .int .i64 0, .int .i64 0, .int .i64 0] 91))))
 have HA3 := h_ (HA2.out.alloc (.cells #[.int .i64 op, .int .i64 (regA s).1, .int .i64 0, .int .i64 0, .int .i64 0, .int .i64 0] 91))
 have hAB : w.heap.size ≠ (w2).heap.size := by omega
 have hrB : r ≠ (w2).heap.size := by omega
 have hGB : G ≤ (w2).heap.size := by omega
 have hwB : w.heap.size ≤ (w2).heap.size := by omega
 clear HR2 HG2 HA2
 have HC4 := h_ (d0o _ [44] HR3.out)
 go_wp2_with fail
 refine (HC4.out).mono ?_
 rintro e w4 ⟨rfl, hr, hg⟩
 have HR4 := h_ hr
 have HG4 := h_ (a0a HG3.out hg)
 have HA4 := h_ (HA3.out.kept hg (by intro e; injection e; omega))
 have HB4 := h_ (HB3.out.kept hg (by intro e; injection e; omega))
 have hz4 := HA4.out.lt
 have hzb4 := HB4.out.lt
 clear hr hg HC4 HR3 HG3 HA3 HB3
 (try simp only [intV, e0n])
 have HC5 := h_ (b1j _ HR4.out)
 go_wp2_with fail
 refine (HC5.out).mono ?_
 rintro e w5 ⟨rfl, hr, hg⟩
 have HR5 := h_ hr
 have HG5 := h_ (a0a HG4.out hg)
 have HA5 := h_ (HA4.out.kept hg (by intro e; injection e; omega))
 have HB5 := h_ (HB4.out.kept hg (by intro e; injection e; omega))
 have hz5 := HA5.out.lt
 have hzb5 := HB5.out.lt
 clear hr hg HC5 HR4 HG4 HA4 HB4
 obtain ⟨b0, b1, b2, b3, b4, b5⟩ := a0h HB5.out
 obtain ⟨bf0, bf1, bf2, bf3, bf4, bf5⟩ := a0g HB5.out
 have HB6 := h_ (show Blk (w5.setCell ⟨w2.heap.size, 2, none⟩ (.int .i64 (d0x (a0d (regA s).2 [44])).1.1)) 91 (w2.heap.size) (b0r op (regA s).1 (d0x (a0d (regA s).2 [44])).1.1 0 0 0) from by simpa [b0r] using HB5.out.set 2 (.int .i64 (d0x (a0d (regA s).2 [44])).1.1))
 have HR6 := h_ (HR5.out.other hGB hrB 2 (.int .i64 (d0x (a0d (regA s).2 [44])).1.1))
 have HG6 := h_ (b0v HG5.out hwB 2 (.int .i64 (d0x (a0d (regA s).2 [44])).1.1))
 have HA6 := h_ (HA5.out.other (p := ⟨w2.heap.size, 2, none⟩) hAB (.int .i64 (d0x (a0d (regA s).2 [44])).1.1))
 clear HR5 HG5 HA5 HB5
 have HB7 := h_ (show Blk ((w5.setCell ⟨w2.heap.size, 2, none⟩ (.int .i64 (d0x (a0d (regA s).2 [44])).1.1)).setCell ⟨w2.heap.size, 4, none⟩ (.int .i64 (d0x (a0d (regA s).2 [44])).1.2)) 91 (w2.heap.size) (b0r op (regA s).1 (d0x (a0d (regA s).2 [44])).1.1 0 (d0x (a0d (regA s).2 [44])).1.2 0) from by simpa [b0r] using HB6.out.set 4 (.int .i64 (d0x (a0d (regA s).2 [44])).1.2))
 have HR7 := h_ (HR6.out.other hGB hrB 4 (.int .i64 (d0x (a0d (regA s).2 [44])).1.2))
 have HG7 := h_ (b0v HG6.out hwB 4 (.int .i64 (d0x (a0d (regA s).2 [44])).1.2))
 have HA7 := h_ (HA6.out.other (p := ⟨w2.heap.size, 4, none⟩) hAB (.int .i64 (d0x (a0d (regA s).2 [44])).1.2))
 clear HR6 HG6 HA6 HB6
 obtain ⟨a0, a1, a2, a3, a4, a5⟩ := a0h HA7.out
 obtain ⟨af0, af1, af2, af3, af4, af5⟩ := a0g HA7.out
 go_wp2_with fail
 refine bodyPost_ret (results_cell_row rfl _ _ w.heap.size 91 #[.int .i64 op, .int .i64 (regA s).1, .int .i64 (d0x (a0d (regA s).2 [44])).1.1, .int .i64 0, .int .i64 (d0x (a0d (regA s).2 [44])).1.2, .int .i64 0] (0, 0) _ rfl (b0k HA7.out ⟨op, (regA s).1, (d0x (a0d (regA s).2 [44])).1.1, 0, (d0x (a0d (regA s).2 [44])).1.2, 0⟩) Tryz.underlying91 rfl (by kernel_rfl)) rfl ?_
 exact ⟨rfl, HR7.out.other6 hGw hrA ⟨op, (regA s).1, (d0x (a0d (regA s).2 [44])).1.1, 0, (d0x (a0d (regA s).2 [44])).1.2, 0⟩, a0x HG7.out (Nat.le_refl _) ⟨op, (regA s).1, (d0x (a0d (regA s).2 [44])).1.1, 0, (d0x (a0d (regA s).2 [44])).1.2, 0⟩⟩
theorem j0f {r G : Nat} {s : AS} (w : World) (op : Int) (h : ARd w r G s) :
  Calls Tryz.prog 161 #[.pointer (some ⟨r, 0, none⟩), .int .i64 op] w (g0m r G w insV (h0c s op)) := by
 have hrl := h.lt
 have hGw := h.G_le
 have HA1 := h_ (a0u w 0 0 0 0 0 0)
 have HR1 := h_ (h.below (bl_ (Below.refl _ _) (.cells #[.int .i64 0, .int .i64 0, .int .i64 0, .int .i64 0, .int .i64 0, .int .i64 0] 91)))
 have HG1 := h_ (a0b (row := some r) (bl_ (Below.refl w.heap.size w) (.cells #[.int .i64 0, .int .i64 0, .int .i64 0, .int .i64 0, .int .i64 0, .int .i64 0] 91)))
 have hrA : r ≠ w.heap.size := by omega
 clear h
 go_enter Tryz.func161, Tryz.ntmps161
 have HC2 := h_ (e0r _ HR1.out)
 go_wp2_with fail
 refine (HC2.out).mono ?_
 rintro e w2 ⟨rfl, hr, hg⟩
 have HR2 := h_ hr
 have HG2 := h_ (a0a HG1.out hg)
 have HA2 := h_ (HA1.out.kept hg (by intro e; injection e; omega))
 have hz2 := HA2.out.lt
 clear hr hg HC2 HR1 HG1 HA1
 (try simp only [intV, e0n])
 have HB3 := h_ (a0u w2 op (regA s).1 0 0 0 0)
 have HR3 := h_ (HR2.out.below (bl_ (Below.refl (w2).heap.size w2) (.cells #[.int .i64 op, .int .i64 (regA s).1, .int .i64 0, .int .i64 0, .int .i64 0, .int .i64 0] 91)))
 have HG3 := h_ (a0a HG2.out (a0b (bl_ (Below.refl (w2).heap.size w2) (.cells #[.int .i64 op, .int .i64 (regA s).1, .int .i64 0, .int .i64 0, .int .i64 0, .int .i64 0] 91))))
 have HA3 := h_ (HA2.out.alloc (.cells #[.int .i64 op, .int .i64 (regA s).1, .int .i64 0, .int .i64 0, .int .i64 0, .int .i64 0] 91))
 have hAB : w.heap.size ≠ (w2).heap.size := by omega
 have hrB : r ≠ (w2).heap.size := by omega
 have hGB : G ≤ (w2).heap.size := by omega
 have hwB : w.heap.size ≤ (w2).heap.size := by omega
 clear HR2 HG2 HA2
 have HC4 := h_ (d0o _ [44] HR3.out)
 go_wp2_with fail
 refine (HC4.out).mono ?_
 rintro e w4 ⟨rfl, hr, hg⟩
 have HR4 := h_ hr
 have HG4 := h_ (a0a HG3.out hg)
 have HA4 := h_ (HA3.out.kept hg (by intro e; injection e; omega))
 have HB4 := h_ (HB3.out.kept hg (by intro e; injection e; omega))
 have hz4 := HA4.out.lt
 have hzb4 := HB4.out.lt
 clear hr hg HC4 HR3 HG3 HA3 HB3
 (try simp only [intV, e0n])
 have HC5 := h_ (e0r _ HR4.out)
 go_wp2_with fail
 refine (HC5.out).mono ?_
 rintro e w5 ⟨rfl, hr, hg⟩
 have HR5 := h_ hr
 have HG5 := h_ (a0a HG4.out hg)
 have HA5 := h_ (HA4.out.kept hg (by intro e; injection e; omega))
 have HB5 := h_ (HB4.out.kept hg (by intro e; injection e; omega))
 have hz5 := HA5.out.lt
 have hzb5 := HB5.out.lt
 clear hr hg HC5 HR4 HG4 HA4 HB4
 (try simp only [intV, e0n])
 obtain ⟨b0, b1, b2, b3, b4, b5⟩ := a0h HB5.out
 obtain ⟨bf0, bf1, bf2, bf3, bf4, bf5⟩ := a0g HB5.out
 have HB6 := h_ (show Blk (w5.setCell ⟨w2.heap.size, 2, none⟩ (.int .i64 (regA (a0d (regA s).2 [44])).1)) 91 (w2.heap.size) (b0r op (regA s).1 (regA (a0d (regA s).2 [44])).1 0 0 0) from by simpa [b0r] using HB5.out.set 2 (.int .i64 (regA (a0d (regA s).2 [44])).1))
 have HR6 := h_ (HR5.out.other hGB hrB 2 (.int .i64 (regA (a0d (regA s).2 [44])).1))
 have HG6 := h_ (b0v HG5.out hwB 2 (.int .i64 (regA (a0d (regA s).2 [44])).1))
 have HA6 := h_ (HA5.out.other (p := ⟨w2.heap.size, 2, none⟩) hAB (.int .i64 (regA (a0d (regA s).2 [44])).1))
 clear HR5 HG5 HA5 HB5
 have HC7 := h_ (d0o _ [44] HR6.out)
 go_wp2_with fail
 refine (HC7.out).mono ?_
 rintro e w7 ⟨rfl, hr, hg⟩
 have HR7 := h_ hr
 have HG7 := h_ (a0a HG6.out hg)
 have HA7 := h_ (HA6.out.kept hg (by intro e; injection e; omega))
 have HB7 := h_ (HB6.out.kept hg (by intro e; injection e; omega))
 have hz7 := HA7.out.lt
 have hzb7 := HB7.out.lt
 clear hr hg HC7 HR6 HG6 HA6 HB6
 (try simp only [intV, e0n])
 clear b0 b1 b2 b3 b4 b5 bf0 bf1 bf2 bf3 bf4 bf5
 have HC8 := h_ (e0r _ HR7.out)
 go_wp2_with fail
 refine (HC8.out).mono ?_
 rintro e w8 ⟨rfl, hr, hg⟩
 have HR8 := h_ hr
 have HG8 := h_ (a0a HG7.out hg)
 have HA8 := h_ (HA7.out.kept hg (by intro e; injection e; omega))
 have HB8 := h_ (HB7.out.kept hg (by intro e; injection e; omega))
 have hz8 := HA8.out.lt
 have hzb8 := HB8.out.lt
 clear hr hg HC8 HR7 HG7 HA7 HB7
 (try simp only [intV, e0n])
 obtain ⟨b0, b1, b2, b3, b4, b5⟩ := a0h HB8.out
 obtain ⟨bf0, bf1, bf2, bf3, bf4, bf5⟩ := a0g HB8.out
 have HB9 := h_ (show Blk (w8.setCell ⟨w2.heap.size, 3, none⟩ (.int .i64 (regA (a0d (regA (a0d (regA s).2 [44])).2 [44])).1)) 91 (w2.heap.size) (b0r op (regA s).1 (regA (a0d (regA s).2 [44])).1 (regA (a0d (regA (a0d (regA s).2 [44])).2 [44])).1 0 0) from by simpa [b0r] using HB8.out.set 3 (.int .i64 (regA (a0d (regA (a0d (regA s).2 [44])).2 [44])).1))
 have HR9 := h_ (HR8.out.other hGB hrB 3 (.int .i64 (regA (a0d (regA (a0d (regA s).2 [44])).2 [44])).1))
 have HG9 := h_ (b0v HG8.out hwB 3 (.int .i64 (regA (a0d (regA (a0d (regA s).2 [44])).2 [44])).1))
 have HA9 := h_ (HA8.out.other (p := ⟨w2.heap.size, 3, none⟩) hAB (.int .i64 (regA (a0d (regA (a0d (regA s).2 [44])).2 [44])).1))
 clear HR8 HG8 HA8 HB8
 obtain ⟨a0, a1, a2, a3, a4, a5⟩ := a0h HA9.out
 obtain ⟨af0, af1, af2, af3, af4, af5⟩ := a0g HA9.out
 go_wp2_with fail
 refine bodyPost_ret (results_cell_row rfl _ _ w.heap.size 91 #[.int .i64 op, .int .i64 (regA s).1, .int .i64 (regA (a0d (regA s).2 [44])).1, .int .i64 (regA (a0d (regA (a0d (regA s).2 [44])).2 [44])).1, .int .i64 0, .int .i64 0] (0, 0) _ rfl (b0k HA9.out ⟨op, (regA s).1, (regA (a0d (regA s).2 [44])).1, (regA (a0d (regA (a0d (regA s).2 [44])).2 [44])).1, 0, 0⟩) Tryz.underlying91 rfl (by kernel_rfl)) rfl ?_
 exact ⟨rfl, HR9.out.other6 hGw hrA ⟨op, (regA s).1, (regA (a0d (regA s).2 [44])).1, (regA (a0d (regA (a0d (regA s).2 [44])).2 [44])).1, 0, 0⟩, a0x HG9.out (Nat.le_refl _) ⟨op, (regA s).1, (regA (a0d (regA s).2 [44])).1, (regA (a0d (regA (a0d (regA s).2 [44])).2 [44])).1, 0, 0⟩⟩
theorem u0t {r G : Nat} {s : AS} (w : World) (op : Int) (h : ARd w r G s) :
  Calls Tryz.prog 165 #[.pointer (some ⟨r, 0, none⟩), .int .i64 op] w (g0m r G w insV (v0c s op)) := by
 have hrl := h.lt
 have hGw := h.G_le
 have HA1 := h_ (a0u w 0 0 0 0 0 0)
 have HR1 := h_ (h.below (bl_ (Below.refl _ _) (.cells #[.int .i64 0, .int .i64 0, .int .i64 0, .int .i64 0, .int .i64 0, .int .i64 0] 91)))
 have HG1 := h_ (a0b (row := some r) (bl_ (Below.refl w.heap.size w) (.cells #[.int .i64 0, .int .i64 0, .int .i64 0, .int .i64 0, .int .i64 0, .int .i64 0] 91)))
 have hrA : r ≠ w.heap.size := by omega
 clear h
 go_enter Tryz.func165, Tryz.ntmps165
 have HC2 := h_ (e0r _ HR1.out)
 go_wp2_with fail
 refine (HC2.out).mono ?_
 rintro e w2 ⟨rfl, hr, hg⟩
 have HR2 := h_ hr
 have HG2 := h_ (a0a HG1.out hg)
 have HA2 := h_ (HA1.out.kept hg (by intro e; injection e; omega))
 have hz2 := HA2.out.lt
 clear hr hg HC2 HR1 HG1 HA1
 (try simp only [intV, e0n])
 have HB3 := h_ (a0u w2 op (regA s).1 0 0 0 0)
 have HR3 := h_ (HR2.out.below (bl_ (Below.refl (w2).heap.size w2) (.cells #[.int .i64 op, .int .i64 (regA s).1, .int .i64 0, .int .i64 0, .int .i64 0, .int .i64 0] 91)))
 have HG3 := h_ (a0a HG2.out (a0b (bl_ (Below.refl (w2).heap.size w2) (.cells #[.int .i64 op, .int .i64 (regA s).1, .int .i64 0, .int .i64 0, .int .i64 0, .int .i64 0] 91))))
 have HA3 := h_ (HA2.out.alloc (.cells #[.int .i64 op, .int .i64 (regA s).1, .int .i64 0, .int .i64 0, .int .i64 0, .int .i64 0] 91))
 have hAB : w.heap.size ≠ (w2).heap.size := by omega
 have hrB : r ≠ (w2).heap.size := by omega
 have hGB : G ≤ (w2).heap.size := by omega
 have hwB : w.heap.size ≤ (w2).heap.size := by omega
 clear HR2 HG2 HA2
 have HC4 := h_ (d0o _ [44] HR3.out)
 go_wp2_with fail
 refine (HC4.out).mono ?_
 rintro e w4 ⟨rfl, hr, hg⟩
 have HR4 := h_ hr
 have HG4 := h_ (a0a HG3.out hg)
 have HA4 := h_ (HA3.out.kept hg (by intro e; injection e; omega))
 have HB4 := h_ (HB3.out.kept hg (by intro e; injection e; omega))
 have hz4 := HA4.out.lt
 have hzb4 := HB4.out.lt
 clear hr hg HC4 HR3 HG3 HA3 HB3
 (try simp only [intV, e0n])
 have HC5 := h_ (j0w _ HR4.out)
 go_wp2_with fail
 refine (HC5.out).mono ?_
 rintro e w5 ⟨rfl, hr, hg⟩
 have HR5 := h_ hr
 have HG5 := h_ (a0a HG4.out hg)
 have HA5 := h_ (HA4.out.kept hg (by intro e; injection e; omega))
 have HB5 := h_ (HB4.out.kept hg (by intro e; injection e; omega))
 have hz5 := HA5.out.lt
 have hzb5 := HB5.out.lt
 clear hr hg HC5 HR4 HG4 HA4 HB4
 (try simp only [intV, e0n])
 obtain ⟨b0, b1, b2, b3, b4, b5⟩ := a0h HB5.out
 obtain ⟨bf0, bf1, bf2, bf3, bf4, bf5⟩ := a0g HB5.out
 have HB6 := h_ (show Blk (w5.setCell ⟨w2.heap.size, 4, none⟩ (.int .i64 (b0f (a0d (regA s).2 [44])).1)) 91 (w2.heap.size) (b0r op (regA s).1 0 0 (b0f (a0d (regA s).2 [44])).1 0) from by simpa [b0r] using HB5.out.set 4 (.int .i64 (b0f (a0d (regA s).2 [44])).1))
 have HR6 := h_ (HR5.out.other hGB hrB 4 (.int .i64 (b0f (a0d (regA s).2 [44])).1))
 have HG6 := h_ (b0v HG5.out hwB 4 (.int .i64 (b0f (a0d (regA s).2 [44])).1))
 have HA6 := h_ (HA5.out.other (p := ⟨w2.heap.size, 4, none⟩) hAB (.int .i64 (b0f (a0d (regA s).2 [44])).1))
 clear HR5 HG5 HA5 HB5
 obtain ⟨a0, a1, a2, a3, a4, a5⟩ := a0h HA6.out
 obtain ⟨af0, af1, af2, af3, af4, af5⟩ := a0g HA6.out
 go_wp2_with fail
 refine bodyPost_ret (results_cell_row rfl _ _ w.heap.size 91 #[.int .i64 op, .int .i64 (regA s).1, .int .i64 0, .int .i64 0, .int .i64 (b0f (a0d (regA s).2 [44])).1, .int .i64 0] (0, 0) _ rfl (b0k HA6.out ⟨op, (regA s).1, 0, 0, (b0f (a0d (regA s).2 [44])).1, 0⟩) Tryz.underlying91 rfl (by kernel_rfl)) rfl ?_
 exact ⟨rfl, HR6.out.other6 hGw hrA ⟨op, (regA s).1, 0, 0, (b0f (a0d (regA s).2 [44])).1, 0⟩, a0x HG6.out (Nat.le_refl _) ⟨op, (regA s).1, 0, 0, (b0f (a0d (regA s).2 [44])).1, 0⟩⟩
theorem j1j (s : AS) (most : Nat) (name : Nat → List UInt8) : 0 ≤ (e0a s most name).1 := by
 unfold e0a; split
 ·simp
 ·split <;> simp
theorem f1v (s : AS) : 0 ≤ (c0o s).1 ∧ (c0o s).1 ≤ 1099511627776 := q0p _ _
theorem k1e : ∀ args w1, (callFunc 144 args).run Tryz.prog w1 = .ok (.enter 144 args) w1 := enters_of Tryz.func144 (by kernel_rfl) rfl
theorem x0z : ∀ args w1, (callFunc 143 args).run Tryz.prog w1 = .ok (.enter 143 args) w1 := enters_of Tryz.func143 (by kernel_rfl) rfl
theorem k1d : ∀ args w1, (callFunc 145 args).run Tryz.prog w1 = .ok (.enter 145 args) w1 := enters_of Tryz.func145 (by kernel_rfl) rfl
theorem w0w {r G : Nat} {s : AS} (w : World) (h : ARd w r G s) :
  Calls Tryz.prog 167 #[.pointer (some ⟨r, 0, none⟩)] w (g0m r G w insV (p0m s)) := by
 have hrl := h.lt
 have hGw := h.G_le
 have HA1 := h_ (a0u w 0 0 0 0 0 0)
 have HR1 := h_ (h.below (bl_ (Below.refl _ _) (.cells #[.int .i64 0, .int .i64 0, .int .i64 0, .int .i64 0, .int .i64 0, .int .i64 0] 91)))
 have HG1 := h_ (a0b (row := some r) (bl_ (Below.refl w.heap.size w) (.cells #[.int .i64 0, .int .i64 0, .int .i64 0, .int .i64 0, .int .i64 0, .int .i64 0] 91)))
 have hrA : r ≠ w.heap.size := by omega
 clear h
 have HM := h_ (show p0m s = if (e0a s 8 k0q).1 % 4 = 0 then (⟨21, 31, 0, 0, 0, (e0a s 8 k0q).1⟩, (e0a s 8 k0q).2) else (⟨21, (regA (a0d (e0a s 8 k0q).2 [44])).1, 0, 0, 0, (e0a s 8 k0q).1⟩, (regA (a0d (e0a s 8 k0q).2 [44])).2) from rfl)
 have hkb := j1j s 8 k0q
 have HK0 := h_ (fun w1 (hh : ARd w1 r G s) => m0j w1 144 8 k0q w0f (by decide) k1e hh)
 generalize e0a s 8 k0q = y at *
 obtain ⟨kd, s2⟩ := y
 simp only at HM hkb
 go_enter Tryz.func167, Tryz.ntmps167
 have HC2 := h_ (HK0.out _ HR1.out)
 go_wp2_with fail
 refine (HC2.out).mono ?_
 rintro e w2 ⟨rfl, hr, hg⟩
 have HR2 := h_ hr
 have HG2 := h_ (a0a HG1.out hg)
 have HA2 := h_ (HA1.out.kept hg (by intro e; injection e; omega))
 have hz2 := HA2.out.lt
 clear hr hg HC2 HR1 HG1 HA1
 (try simp only [intV, e0n])
 obtain ⟨a0, a1, a2, a3, a4, a5⟩ := a0h HA2.out
 obtain ⟨af0, af1, af2, af3, af4, af5⟩ := a0g HA2.out
 have HB3 := h_ (a0u w2 21 31 0 0 0 kd)
 have HR3 := h_ (HR2.out.below (bl_ (Below.refl (w2).heap.size w2) (.cells #[.int .i64 21, .int .i64 31, .int .i64 0, .int .i64 0, .int .i64 0, .int .i64 kd] 91)))
 have HG3 := h_ (a0a HG2.out (a0b (bl_ (Below.refl (w2).heap.size w2) (.cells #[.int .i64 21, .int .i64 31, .int .i64 0, .int .i64 0, .int .i64 0, .int .i64 kd] 91))))
 have HA3 := h_ (HA2.out.alloc (.cells #[.int .i64 21, .int .i64 31, .int .i64 0, .int .i64 0, .int .i64 0, .int .i64 kd] 91))
 have hAB : w.heap.size ≠ (w2).heap.size := by omega
 have hrB : r ≠ (w2).heap.size := by omega
 have hGB : G ≤ (w2).heap.size := by omega
 have hwB : w.heap.size ≤ (w2).heap.size := by omega
 obtain ⟨b0, b1, b2, b3, b4, b5⟩ := a0h HB3.out
 obtain ⟨bf0, bf1, bf2, bf3, bf4, bf5⟩ := a0g HB3.out
 by_cases hk4 : kd % 4 = 0
 ·have HM2 := h_ (show p0m s = (⟨21, 31, 0, 0, 0, kd⟩, s2) by rw [HM.out, if_pos hk4])
  go_wp2_with fail
  refine bodyPost_ret (results_cell_row rfl _ _ w.heap.size 91 #[.int .i64 21, .int .i64 31, .int .i64 0, .int .i64 0, .int .i64 0, .int .i64 kd] (0, 0) _ rfl ((b0k HA2.out ⟨21, 31, 0, 0, 0, kd⟩).alloc (.cells #[.int .i64 21, .int .i64 31, .int .i64 0, .int .i64 0, .int .i64 0, .int .i64 kd] 91)) Tryz.underlying91 rfl (by kernel_rfl)) rfl ?_
  rw [HM2.out]
  exact ⟨rfl, (HR2.out.other6 hGw hrA ⟨21, 31, 0, 0, 0, kd⟩).below (bl_ (Below.refl _ _) _), a0a (a0x HG2.out (Nat.le_refl _) ⟨21, 31, 0, 0, 0, kd⟩) (World.grownBy_alloc _ _ _)⟩
 ·have HM2 := h_ (show p0m s = (⟨21, (regA (a0d s2 [44])).1, 0, 0, 0, kd⟩, (regA (a0d s2 [44])).2) by rw [HM.out, if_neg hk4])
  have hk4b : (kd % 4 != 0) = true := bne_iff_ne.2 hk4
  have HC4 := h_ (d0o _ [44] HR3.out)
  go_wp2_with fail
  refine (HC4.out).mono ?_
  rintro e w4 ⟨rfl, hr, hg⟩
  have HR4 := h_ hr
  have HG4 := h_ (a0a HG3.out hg)
  have HA4 := h_ (HA3.out.kept hg (by intro e; injection e; omega))
  have HB4 := h_ (HB3.out.kept hg (by intro e; injection e; omega))
  have hz4 := HA4.out.lt
  have hzb4 := HB4.out.lt
  clear hr hg HC4 HR3 HG3 HA3 HB3
  (try simp only [intV, e0n])
  clear b0 b1 b2 b3 b4 b5 bf0 bf1 bf2 bf3 bf4 bf5
  clear a0 a1 a2 a3 a4 a5 af0 af1 af2 af3 af4 af5
  have HC5 := h_ (e0r _ HR4.out)
  go_wp2_with fail
  refine (HC5.out).mono ?_
  rintro e w5 ⟨rfl, hr, hg⟩
  have HR5 := h_ hr
  have HG5 := h_ (a0a HG4.out hg)
  have HA5 := h_ (HA4.out.kept hg (by intro e; injection e; omega))
  have HB5 := h_ (HB4.out.kept hg (by intro e; injection e; omega))
  have hz5 := HA5.out.lt
  have hzb5 := HB5.out.lt
  clear hr hg HC5 HR4 HG4 HA4 HB4
  (try simp only [intV, e0n])
  obtain ⟨b0, b1, b2, b3, b4, b5⟩ := a0h HB5.out
  obtain ⟨bf0, bf1, bf2, bf3, bf4, bf5⟩ := a0g HB5.out
  have HB6 := h_ (show Blk (w5.setCell ⟨w2.heap.size, 1, none⟩ (.int .i64 (regA (a0d s2 [44])).1)) 91 (w2.heap.size) (b0r 21 (regA (a0d s2 [44])).1 0 0 0 kd) from by simpa [b0r] using HB5.out.set 1 (.int .i64 (regA (a0d s2 [44])).1))
  have HR6 := h_ (HR5.out.other hGB hrB 1 (.int .i64 (regA (a0d s2 [44])).1))
  have HG6 := h_ (b0v HG5.out hwB 1 (.int .i64 (regA (a0d s2 [44])).1))
  have HA6 := h_ (HA5.out.other (p := ⟨w2.heap.size, 1, none⟩) hAB (.int .i64 (regA (a0d s2 [44])).1))
  clear HR5 HG5 HA5 HB5
  obtain ⟨a0, a1, a2, a3, a4, a5⟩ := a0h HA6.out
  obtain ⟨af0, af1, af2, af3, af4, af5⟩ := a0g HA6.out
  go_wp2_with fail
  refine bodyPost_ret (results_cell_row rfl _ _ w.heap.size 91 #[.int .i64 21, .int .i64 (regA (a0d s2 [44])).1, .int .i64 0, .int .i64 0, .int .i64 0, .int .i64 kd] (0, 0) _ rfl (b0k HA6.out ⟨21, (regA (a0d s2 [44])).1, 0, 0, 0, kd⟩) Tryz.underlying91 rfl (by kernel_rfl)) rfl ?_
  rw [HM2.out]
  exact ⟨rfl, HR6.out.other6 hGw hrA ⟨21, (regA (a0d s2 [44])).1, 0, 0, 0, kd⟩, a0x HG6.out (Nat.le_refl _) ⟨21, (regA (a0d s2 [44])).1, 0, 0, 0, kd⟩⟩
theorem u0v {r G : Nat} {s : AS} (w : World) (h : ARd w r G s) :
  Calls Tryz.prog 159 #[.pointer (some ⟨r, 0, none⟩)] w (g0m r G w insV (moveA s)) := by
 have hrl := h.lt
 have hGw := h.G_le
 have HA1 := h_ (a0u w 0 0 0 0 0 0)
 have HR1 := h_ (h.below (bl_ (Below.refl _ _) (.cells #[.int .i64 0, .int .i64 0, .int .i64 0, .int .i64 0, .int .i64 0, .int .i64 0] 91)))
 have HG1 := h_ (a0b (row := some r) (bl_ (Below.refl w.heap.size w) (.cells #[.int .i64 0, .int .i64 0, .int .i64 0, .int .i64 0, .int .i64 0, .int .i64 0] 91)))
 have hrA : r ≠ w.heap.size := by omega
 clear h
 have HM := h_ (show moveA s = if (mayA (c0o (a0d (regA s).2 [44])).2 [44]).1 then (⟨6, (regA s).1, 0, 0, (c0o (a0d (regA s).2 [44])).1, (c0o (a0d (mayA (c0o (a0d (regA s).2 [44])).2 [44]).2 [76, 83, 76])).1 / 16⟩, badA (c0o (a0d (mayA (c0o (a0d (regA s).2 [44])).2 [44]).2 [76, 83, 76])).2 (decide (¬ (c0o (a0d (mayA (c0o (a0d (regA s).2 [44])).2 [44]).2 [76, 83, 76])).1 % 16 = 0))) else (⟨6, (regA s).1, 0, 0, (c0o (a0d (regA s).2 [44])).1, 0⟩, (mayA (c0o (a0d (regA s).2 [44])).2 [44]).2) from rfl)
 have HY := h_ (fun w1 (hh : ARd w1 r G (c0o (a0d (regA s).2 [44])).2) => y0e w1 [44] hh)
 have HMM := h_ (fun w1 (hh : ARd w1 r G (a0d (regA s).2 [44])) => l0a w1 hh)
 have HX0 := h_ (fun w1 (hh : ARd w1 r G s) => e0r w1 hh)
 have HX1 := h_ (fun w1 (hh : ARd w1 r G (regA s).2) => d0o w1 [44] hh)
 generalize a0d (regA s).2 [44] = s1 at *
 generalize regA s = x at *
 obtain ⟨d, s0⟩ := x
 generalize c0o s1 = y at *
 obtain ⟨im, s2⟩ := y
 simp only at HM HY HX1
 generalize mayA s2 [44] = mm at *
 obtain ⟨b, s3⟩ := mm
 simp only at HM
 go_enter Tryz.func159, Tryz.ntmps159
 have HC2 := h_ (HX0.out _ HR1.out)
 go_wp2_with fail
 refine (HC2.out).mono ?_
 rintro e w2 ⟨rfl, hr, hg⟩
 have HR2 := h_ hr
 have HG2 := h_ (a0a HG1.out hg)
 have HA2 := h_ (HA1.out.kept hg (by intro e; injection e; omega))
 have hz2 := HA2.out.lt
 clear hr hg HC2 HR1 HG1 HA1
 (try simp only [intV, e0n])
 have HB3 := h_ (a0u w2 6 d 0 0 0 0)
 have HR3 := h_ (HR2.out.below (bl_ (Below.refl (w2).heap.size w2) (.cells #[.int .i64 6, .int .i64 d, .int .i64 0, .int .i64 0, .int .i64 0, .int .i64 0] 91)))
 have HG3 := h_ (a0a HG2.out (a0b (bl_ (Below.refl (w2).heap.size w2) (.cells #[.int .i64 6, .int .i64 d, .int .i64 0, .int .i64 0, .int .i64 0, .int .i64 0] 91))))
 have HA3 := h_ (HA2.out.alloc (.cells #[.int .i64 6, .int .i64 d, .int .i64 0, .int .i64 0, .int .i64 0, .int .i64 0] 91))
 have hAB : w.heap.size ≠ (w2).heap.size := by omega
 have hrB : r ≠ (w2).heap.size := by omega
 have hGB : G ≤ (w2).heap.size := by omega
 have hwB : w.heap.size ≤ (w2).heap.size := by omega
 clear HR2 HG2 HA2
 have HC4 := h_ (HX1.out _ HR3.out)
 go_wp2_with fail
 refine (HC4.out).mono ?_
 rintro e w4 ⟨rfl, hr, hg⟩
 have HR4 := h_ hr
 have HG4 := h_ (a0a HG3.out hg)
 have HA4 := h_ (HA3.out.kept hg (by intro e; injection e; omega))
 have HB4 := h_ (HB3.out.kept hg (by intro e; injection e; omega))
 have hz4 := HA4.out.lt
 have hzb4 := HB4.out.lt
 clear hr hg HC4 HR3 HG3 HA3 HB3
 (try simp only [intV, e0n])
 have HC5 := h_ (HMM.out _ HR4.out)
 go_wp2_with fail
 refine (HC5.out).mono ?_
 rintro e w5 ⟨rfl, hr, hg⟩
 have HR5 := h_ hr
 have HG5 := h_ (a0a HG4.out hg)
 have HA5 := h_ (HA4.out.kept hg (by intro e; injection e; omega))
 have HB5 := h_ (HB4.out.kept hg (by intro e; injection e; omega))
 have hz5 := HA5.out.lt
 have hzb5 := HB5.out.lt
 clear hr hg HC5 HR4 HG4 HA4 HB4
 (try simp only [intV, e0n])
 obtain ⟨b0, b1, b2, b3, b4, b5⟩ := a0h HB5.out
 obtain ⟨bf0, bf1, bf2, bf3, bf4, bf5⟩ := a0g HB5.out
 have HB6 := h_ (show Blk (w5.setCell ⟨w2.heap.size, 4, none⟩ (.int .i64 im)) 91 (w2.heap.size) (b0r 6 d 0 0 im 0) from by simpa [b0r] using HB5.out.set 4 (.int .i64 im))
 have HR6 := h_ (HR5.out.other hGB hrB 4 (.int .i64 im))
 have HG6 := h_ (b0v HG5.out hwB 4 (.int .i64 im))
 have HA6 := h_ (HA5.out.other (p := ⟨w2.heap.size, 4, none⟩) hAB (.int .i64 im))
 clear HR5 HG5 HA5 HB5
 have HC7 := h_ (HY.out _ HR6.out)
 go_wp2_with fail
 refine (HC7.out).mono ?_
 rintro e w7 ⟨rfl, hr, hg⟩
 have HR7 := h_ hr
 have HG7 := h_ (a0a HG6.out hg)
 have HA7 := h_ (HA6.out.kept hg (by intro e; injection e; omega))
 have HB7 := h_ (HB6.out.kept hg (by intro e; injection e; omega))
 have hz7 := HA7.out.lt
 have hzb7 := HB7.out.lt
 clear hr hg HC7 HR6 HG6 HA6 HB6
 (try simp only [intV, e0n])
 clear b0 b1 b2 b3 b4 b5 bf0 bf1 bf2 bf3 bf4 bf5
 cases b
 ·have HM2 := h_ (show moveA s = (⟨6, d, 0, 0, im, 0⟩, s3) by rw [HM.out]; rfl)
  obtain ⟨a0, a1, a2, a3, a4, a5⟩ := a0h HA7.out
  obtain ⟨af0, af1, af2, af3, af4, af5⟩ := a0g HA7.out
  obtain ⟨b0, b1, b2, b3, b4, b5⟩ := a0h HB7.out
  obtain ⟨bf0, bf1, bf2, bf3, bf4, bf5⟩ := a0g HB7.out
  go_wp2_with fail
  refine bodyPost_ret (results_cell_row rfl _ _ w.heap.size 91 #[.int .i64 6, .int .i64 d, .int .i64 0, .int .i64 0, .int .i64 im, .int .i64 0] (0, 0) _ rfl (b0k HA7.out ⟨6, d, 0, 0, im, 0⟩) Tryz.underlying91 rfl (by kernel_rfl)) rfl ?_
  rw [HM2.out]
  exact ⟨rfl, HR7.out.other6 hGw hrA ⟨6, d, 0, 0, im, 0⟩, a0x HG7.out (Nat.le_refl _) ⟨6, d, 0, 0, im, 0⟩⟩
 ·have HM2 := h_ (show moveA s = (⟨6, d, 0, 0, im, (c0o (a0d s3 [76, 83, 76])).1 / 16⟩, badA (c0o (a0d s3 [76, 83, 76])).2 (decide (¬ (c0o (a0d s3 [76, 83, 76])).1 % 16 = 0))) by rw [HM.out]; rfl)
  obtain ⟨hq0, hq1⟩ := f1v (a0d s3 [76, 83, 76])
  have HQ := h_ (fun w1 (hh : ARd w1 r G (a0d s3 [76, 83, 76])) => l0a w1 hh)
  have HQ0 := h_ (fun w1 (hh : ARd w1 r G s3) => d0o w1 [76, 83, 76] hh)
  generalize a0d s3 [76, 83, 76] = s4 at *
  generalize c0o s4 = z at *
  obtain ⟨z, s5⟩ := z
  simp only at HM2 hq0 hq1
  have HC8 := h_ (HQ0.out _ HR7.out)
  go_wp2_with fail
  refine (HC8.out).mono ?_
  rintro e w8 ⟨rfl, hr, hg⟩
  have HR8 := h_ hr
  have HG8 := h_ (a0a HG7.out hg)
  have HA8 := h_ (HA7.out.kept hg (by intro e; injection e; omega))
  have HB8 := h_ (HB7.out.kept hg (by intro e; injection e; omega))
  have hz8 := HA8.out.lt
  have hzb8 := HB8.out.lt
  clear hr hg HC8 HR7 HG7 HA7 HB7
  (try simp only [intV, e0n])
  have HC9 := h_ (HQ.out _ HR8.out)
  go_wp2_with fail
  refine (HC9.out).mono ?_
  rintro e w9 ⟨rfl, hr, hg⟩
  have HR9 := h_ hr
  have HG9 := h_ (a0a HG8.out hg)
  have HA9 := h_ (HA8.out.kept hg (by intro e; injection e; omega))
  have HB9 := h_ (HB8.out.kept hg (by intro e; injection e; omega))
  have hz9 := HA9.out.lt
  have hzb9 := HB9.out.lt
  clear hr hg HC9 HR8 HG8 HA8 HB8
  (try simp only [intV, e0n])
  obtain ⟨b0, b1, b2, b3, b4, b5⟩ := a0h HB9.out
  obtain ⟨bf0, bf1, bf2, bf3, bf4, bf5⟩ := a0g HB9.out
  have HB10 := h_ (show Blk (w9.setCell ⟨w2.heap.size, 5, none⟩ (.int .i64 (z / 16))) 91 (w2.heap.size) (b0r 6 d 0 0 im (z / 16)) from by simpa [b0r] using HB9.out.set 5 (.int .i64 (z / 16)))
  have HR10 := h_ (HR9.out.other hGB hrB 5 (.int .i64 (z / 16)))
  have HG10 := h_ (b0v HG9.out hwB 5 (.int .i64 (z / 16)))
  have HA10 := h_ (HA9.out.other (p := ⟨w2.heap.size, 5, none⟩) hAB (.int .i64 (z / 16)))
  clear HR9 HG9 HA9 HB9
  obtain ⟨a0, a1, a2, a3, a4, a5⟩ := a0h HA10.out
  obtain ⟨af0, af1, af2, af3, af4, af5⟩ := a0g HA10.out
  have HR := HR10
  obtain ⟨ws5, bad5⟩ := s5
  have hr9 := HR.out
  have hrl9 := hr9.lt
  obtain ⟨p9, cc, hB, _⟩ := hr9
  have c0 := hB.cell 0
  have c1 := hB.cell 1
  have f0 := hB.free 0
  have f1 := hB.free 1
  simp only [gz_, gs_] at c0 c1
  clear hB
  cases hz : decide (¬ z % 16 = 0) <;> cases bad5
  ·have HM3 := h_ (show moveA s = (⟨6, d, 0, 0, im, z / 16⟩, badA (ws5, false) false) by rw [HM2.out, hz])
   have hzb : (z % 16 != 0) = false := by have hz' := hz; simp at hz'; simp [hz']
   clear hz
   have HR11 := h_ (HR10.out.bad false)
   have HG11 := h_ (a0a HG10.out (a0r _ r 1 (.bool (false || false))))
   have HA11 := h_ (HA10.out.other (p := ⟨r, 1, none⟩) (by simp; omega) (.bool (false || false)))
   go_wp2_with fail
   refine bodyPost_ret (results_cell_row rfl _ _ w.heap.size 91 #[.int .i64 6, .int .i64 d, .int .i64 0, .int .i64 0, .int .i64 im, .int .i64 (z / 16)] (0, 0) _ rfl (b0k HA11.out ⟨6, d, 0, 0, im, (z / 16)⟩) Tryz.underlying91 rfl (by kernel_rfl)) rfl ?_
   rw [HM3.out]
   exact ⟨rfl, HR11.out.other6 hGw hrA ⟨6, d, 0, 0, im, (z / 16)⟩, a0x HG11.out (Nat.le_refl _) ⟨6, d, 0, 0, im, (z / 16)⟩⟩
  ·have HM3 := h_ (show moveA s = (⟨6, d, 0, 0, im, z / 16⟩, badA (ws5, true) false) by rw [HM2.out, hz])
   have hzb : (z % 16 != 0) = false := by have hz' := hz; simp at hz'; simp [hz']
   clear hz
   have HR11 := h_ (HR10.out.bad false)
   have HG11 := h_ (a0a HG10.out (a0r _ r 1 (.bool (true || false))))
   have HA11 := h_ (HA10.out.other (p := ⟨r, 1, none⟩) (by simp; omega) (.bool (true || false)))
   go_wp2_with fail
   refine bodyPost_ret (results_cell_row rfl _ _ w.heap.size 91 #[.int .i64 6, .int .i64 d, .int .i64 0, .int .i64 0, .int .i64 im, .int .i64 (z / 16)] (0, 0) _ rfl (b0k HA11.out ⟨6, d, 0, 0, im, (z / 16)⟩) Tryz.underlying91 rfl (by kernel_rfl)) rfl ?_
   rw [HM3.out]
   exact ⟨rfl, HR11.out.other6 hGw hrA ⟨6, d, 0, 0, im, (z / 16)⟩, a0x HG11.out (Nat.le_refl _) ⟨6, d, 0, 0, im, (z / 16)⟩⟩
  ·have HM3 := h_ (show moveA s = (⟨6, d, 0, 0, im, z / 16⟩, badA (ws5, false) true) by rw [HM2.out, hz])
   have hzb : (z % 16 != 0) = true := by have hz' := hz; simp at hz'; simp [hz']
   clear hz
   have HR11 := h_ (HR10.out.bad true)
   have HG11 := h_ (a0a HG10.out (a0r _ r 1 (.bool (false || true))))
   have HA11 := h_ (HA10.out.other (p := ⟨r, 1, none⟩) (by simp; omega) (.bool (false || true)))
   go_wp2_with fail
   refine bodyPost_ret (results_cell_row rfl _ _ w.heap.size 91 #[.int .i64 6, .int .i64 d, .int .i64 0, .int .i64 0, .int .i64 im, .int .i64 (z / 16)] (0, 0) _ rfl (b0k HA11.out ⟨6, d, 0, 0, im, (z / 16)⟩) Tryz.underlying91 rfl (by kernel_rfl)) rfl ?_
   rw [HM3.out]
   exact ⟨rfl, HR11.out.other6 hGw hrA ⟨6, d, 0, 0, im, (z / 16)⟩, a0x HG11.out (Nat.le_refl _) ⟨6, d, 0, 0, im, (z / 16)⟩⟩
  ·have HM3 := h_ (show moveA s = (⟨6, d, 0, 0, im, z / 16⟩, badA (ws5, true) true) by rw [HM2.out, hz])
   have hzb : (z % 16 != 0) = true := by have hz' := hz; simp at hz'; simp [hz']
   clear hz
   have HR11 := h_ (HR10.out.bad true)
   have HG11 := h_ (a0a HG10.out (a0r _ r 1 (.bool (true || true))))
   have HA11 := h_ (HA10.out.other (p := ⟨r, 1, none⟩) (by simp; omega) (.bool (true || true)))
   go_wp2_with fail
   refine bodyPost_ret (results_cell_row rfl _ _ w.heap.size 91 #[.int .i64 6, .int .i64 d, .int .i64 0, .int .i64 0, .int .i64 im, .int .i64 (z / 16)] (0, 0) _ rfl (b0k HA11.out ⟨6, d, 0, 0, im, (z / 16)⟩) Tryz.underlying91 rfl (by kernel_rfl)) rfl ?_
   rw [HM3.out]
   exact ⟨rfl, HR11.out.other6 hGw hrA ⟨6, d, 0, 0, im, (z / 16)⟩, a0x HG11.out (Nat.le_refl _) ⟨6, d, 0, 0, im, (z / 16)⟩⟩
theorem l1i {r G : Nat} {s : AS} (w : World) (h : ARd w r G s) :
  Calls Tryz.prog 160 #[.pointer (some ⟨r, 0, none⟩)] w (g0m r G w insV (addA s)) := by
 have hrl := h.lt
 have hGw := h.G_le
 have HA1 := h_ (a0u w 0 0 0 0 0 0)
 have HR1 := h_ (h.below (bl_ (Below.refl _ _) (.cells #[.int .i64 0, .int .i64 0, .int .i64 0, .int .i64 0, .int .i64 0, .int .i64 0] 91)))
 have HG1 := h_ (a0b (row := some r) (bl_ (Below.refl w.heap.size w) (.cells #[.int .i64 0, .int .i64 0, .int .i64 0, .int .i64 0, .int .i64 0, .int .i64 0] 91)))
 have hrA : r ≠ w.heap.size := by omega
 clear h
 have HM := h_ (show addA s = if hashA (a0d (regA (a0d (regA s).2 [44])).2 [44]) then (⟨7, (regA s).1, (regA (a0d (regA s).2 [44])).1, 0, (c0o (a0d (regA (a0d (regA s).2 [44])).2 [44])).1, 0⟩, (c0o (a0d (regA (a0d (regA s).2 [44])).2 [44])).2) else (⟨8, (regA s).1, (regA (a0d (regA s).2 [44])).1, (regA (a0d (regA (a0d (regA s).2 [44])).2 [44])).1, 0, 0⟩, (regA (a0d (regA (a0d (regA s).2 [44])).2 [44])).2) from rfl)
 have H1 := h_ (fun w1 (hh : ARd w1 r G s) => e0r w1 hh)
 have H2 := h_ (fun w1 (hh : ARd w1 r G (regA s).2) => d0o w1 [44] hh)
 have H3 := h_ (fun w1 (hh : ARd w1 r G (a0d (regA s).2 [44])) => e0r w1 hh)
 have H4 := h_ (fun w1 (hh : ARd w1 r G (regA (a0d (regA s).2 [44])).2) => d0o w1 [44] hh)
 generalize a0d (regA (a0d (regA s).2 [44])).2 [44] = s4 at *
 generalize regA (a0d (regA s).2 [44]) = y at *
 obtain ⟨n, s3⟩ := y
 generalize a0d (regA s).2 [44] = s2 at *
 generalize regA s = x at *
 obtain ⟨d, s1⟩ := x
 simp only at HM H2 H4
 go_enter Tryz.func160, Tryz.ntmps160
 have HC2 := h_ (H1.out _ HR1.out)
 go_wp2_with fail
 refine (HC2.out).mono ?_
 rintro e w2 ⟨rfl, hr, hg⟩
 have HR2 := h_ hr
 have HG2 := h_ (a0a HG1.out hg)
 have HA2 := h_ (HA1.out.kept hg (by intro e; injection e; omega))
 have hz2 := HA2.out.lt
 clear hr hg HC2 HR1 HG1 HA1
 (try simp only [intV, e0n])
 have HB3 := h_ (a0u w2 8 d 0 0 0 0)
 have HR3 := h_ (HR2.out.below (bl_ (Below.refl (w2).heap.size w2) (.cells #[.int .i64 8, .int .i64 d, .int .i64 0, .int .i64 0, .int .i64 0, .int .i64 0] 91)))
 have HG3 := h_ (a0a HG2.out (a0b (bl_ (Below.refl (w2).heap.size w2) (.cells #[.int .i64 8, .int .i64 d, .int .i64 0, .int .i64 0, .int .i64 0, .int .i64 0] 91))))
 have HA3 := h_ (HA2.out.alloc (.cells #[.int .i64 8, .int .i64 d, .int .i64 0, .int .i64 0, .int .i64 0, .int .i64 0] 91))
 have hAB : w.heap.size ≠ (w2).heap.size := by omega
 have hrB : r ≠ (w2).heap.size := by omega
 have hGB : G ≤ (w2).heap.size := by omega
 have hwB : w.heap.size ≤ (w2).heap.size := by omega
 clear HR2 HG2 HA2
 have HC4 := h_ (H2.out _ HR3.out)
 go_wp2_with fail
 refine (HC4.out).mono ?_
 rintro e w4 ⟨rfl, hr, hg⟩
 have HR4 := h_ hr
 have HG4 := h_ (a0a HG3.out hg)
 have HA4 := h_ (HA3.out.kept hg (by intro e; injection e; omega))
 have HB4 := h_ (HB3.out.kept hg (by intro e; injection e; omega))
 have hz4 := HA4.out.lt
 have hzb4 := HB4.out.lt
 clear hr hg HC4 HR3 HG3 HA3 HB3
 (try simp only [intV, e0n])
 have HC5 := h_ (H3.out _ HR4.out)
 go_wp2_with fail
 refine (HC5.out).mono ?_
 rintro e w5 ⟨rfl, hr, hg⟩
 have HR5 := h_ hr
 have HG5 := h_ (a0a HG4.out hg)
 have HA5 := h_ (HA4.out.kept hg (by intro e; injection e; omega))
 have HB5 := h_ (HB4.out.kept hg (by intro e; injection e; omega))
 have hz5 := HA5.out.lt
 have hzb5 := HB5.out.lt
 clear hr hg HC5 HR4 HG4 HA4 HB4
 (try simp only [intV, e0n])
 obtain ⟨b0, b1, b2, b3, b4, b5⟩ := a0h HB5.out
 obtain ⟨bf0, bf1, bf2, bf3, bf4, bf5⟩ := a0g HB5.out
 have HB6 := h_ (show Blk (w5.setCell ⟨w2.heap.size, 2, none⟩ (.int .i64 n)) 91 (w2.heap.size) (b0r 8 d n 0 0 0) from by simpa [b0r] using HB5.out.set 2 (.int .i64 n))
 have HR6 := h_ (HR5.out.other hGB hrB 2 (.int .i64 n))
 have HG6 := h_ (b0v HG5.out hwB 2 (.int .i64 n))
 have HA6 := h_ (HA5.out.other (p := ⟨w2.heap.size, 2, none⟩) hAB (.int .i64 n))
 clear HR5 HG5 HA5 HB5
 have HC7 := h_ (H4.out _ HR6.out)
 go_wp2_with fail
 refine (HC7.out).mono ?_
 rintro e w7 ⟨rfl, hr, hg⟩
 have HR7 := h_ hr
 have HG7 := h_ (a0a HG6.out hg)
 have HA7 := h_ (HA6.out.kept hg (by intro e; injection e; omega))
 have HB7 := h_ (HB6.out.kept hg (by intro e; injection e; omega))
 have hz7 := HA7.out.lt
 have hzb7 := HB7.out.lt
 clear hr hg HC7 HR6 HG6 HA6 HB6
 (try simp only [intV, e0n])
 clear b0 b1 b2 b3 b4 b5 bf0 bf1 bf2 bf3 bf4 bf5
 have hr9 := HR7.out
 have HCC := h_ (fun w1 (hh : ARd w1 r G s4) => l0a w1 hh)
 have HRR := h_ (fun w1 (hh : ARd w1 r G s4) => e0r w1 hh)
 generalize hc4 : c0o s4 = cy at *
 obtain ⟨im, s5⟩ := cy
 generalize hr4 : regA s4 = ry at *
 obtain ⟨mm, s6⟩ := ry
 clear hc4 hr4
 obtain ⟨p9, cc9, hB9, hRd9, _⟩ := hr9
 have c0 := hB9.cell 0
 simp only [gz_, gs_] at c0
 obtain ⟨ws, bad⟩ := s4
 cases ws with
 | nil =>
  have HM2 := h_ (show addA s = (⟨8, d, n, mm, 0, 0⟩, s6) by rw [HM.out]; rfl)
  simp only [List.length_nil] at c0
  clear hB9 hRd9
  have HC8 := h_ (HRR.out _ HR7.out)
  go_wp2_with fail
  refine (HC8.out).mono ?_
  rintro e w8 ⟨rfl, hr, hg⟩
  have HR8 := h_ hr
  have HG8 := h_ (a0a HG7.out hg)
  have HA8 := h_ (HA7.out.kept hg (by intro e; injection e; omega))
  have HB8 := h_ (HB7.out.kept hg (by intro e; injection e; omega))
  have hz8 := HA8.out.lt
  have hzb8 := HB8.out.lt
  clear hr hg HC8 HR7 HG7 HA7 HB7
  (try simp only [intV, e0n])
  obtain ⟨b0, b1, b2, b3, b4, b5⟩ := a0h HB8.out
  obtain ⟨bf0, bf1, bf2, bf3, bf4, bf5⟩ := a0g HB8.out
  have HB9 := h_ (show Blk (w8.setCell ⟨w2.heap.size, 3, none⟩ (.int .i64 mm)) 91 (w2.heap.size) (b0r 8 d n mm 0 0) from by simpa [b0r] using HB8.out.set 3 (.int .i64 mm))
  have HR9 := h_ (HR8.out.other hGB hrB 3 (.int .i64 mm))
  have HG9 := h_ (b0v HG8.out hwB 3 (.int .i64 mm))
  have HA9 := h_ (HA8.out.other (p := ⟨w2.heap.size, 3, none⟩) hAB (.int .i64 mm))
  clear HR8 HG8 HA8 HB8
  obtain ⟨a0, a1, a2, a3, a4, a5⟩ := a0h HA9.out
  obtain ⟨af0, af1, af2, af3, af4, af5⟩ := a0g HA9.out
  go_wp2_with fail
  refine bodyPost_ret (results_cell_row rfl _ _ w.heap.size 91 #[.int .i64 8, .int .i64 d, .int .i64 n, .int .i64 mm, .int .i64 0, .int .i64 0] (0, 0) _ rfl (b0k HA9.out ⟨8, d, n, mm, 0, 0⟩) Tryz.underlying91 rfl (by kernel_rfl)) rfl ?_
  rw [HM2.out]
  exact ⟨rfl, HR9.out.other6 hGw hrA ⟨8, d, n, mm, 0, 0⟩, a0x HG9.out (Nat.le_refl _) ⟨8, d, n, mm, 0, 0⟩⟩
 | cons x ws =>
  obtain ⟨g, off, u, rfl, hu, hc⟩ := hRd9.at_ (j := 0) (by simp)
  obtain rfl : u = .string (ba x) := by simpa [strV] using hu.symm
  rw [Nat.add_zero] at hc
  simp only [List.length_cons] at c0
  clear hu hB9 hRd9
  have HHP := h_ (fun w1 => j1u (ba x) (ba [35]) w1)
  simp only [n0c] at HHP
  have HM2 := h_ (show addA s = if [35].isPrefixOf x then (⟨7, d, n, 0, im, 0⟩, s5) else (⟨8, d, n, mm, 0, 0⟩, s6) from HM.out)
  generalize [35].isPrefixOf x = b at *
  cases b
  ·have HM3 := h_ (show addA s = (⟨8, d, n, mm, 0, 0⟩, s6) by rw [HM2.out]; rfl)
   go_wp2_with fail
   refine (HHP.out _).mono ?_
   rintro e w9 ⟨rfl, rfl⟩
   have HC8 := h_ (HRR.out _ HR7.out)
   go_wp2_with fail
   refine (HC8.out).mono ?_
   rintro e w8 ⟨rfl, hr, hg⟩
   have HR8 := h_ hr
   have HG8 := h_ (a0a HG7.out hg)
   have HA8 := h_ (HA7.out.kept hg (by intro e; injection e; omega))
   have HB8 := h_ (HB7.out.kept hg (by intro e; injection e; omega))
   have hz8 := HA8.out.lt
   have hzb8 := HB8.out.lt
   clear hr hg HC8 HR7 HG7 HA7 HB7
   (try simp only [intV, e0n])
   obtain ⟨b0, b1, b2, b3, b4, b5⟩ := a0h HB8.out
   obtain ⟨bf0, bf1, bf2, bf3, bf4, bf5⟩ := a0g HB8.out
   have HB9 := h_ (show Blk (w8.setCell ⟨w2.heap.size, 3, none⟩ (.int .i64 mm)) 91 (w2.heap.size) (b0r 8 d n mm 0 0) from by simpa [b0r] using HB8.out.set 3 (.int .i64 mm))
   have HR9 := h_ (HR8.out.other hGB hrB 3 (.int .i64 mm))
   have HG9 := h_ (b0v HG8.out hwB 3 (.int .i64 mm))
   have HA9 := h_ (HA8.out.other (p := ⟨w2.heap.size, 3, none⟩) hAB (.int .i64 mm))
   clear HR8 HG8 HA8 HB8
   obtain ⟨a0, a1, a2, a3, a4, a5⟩ := a0h HA9.out
   obtain ⟨af0, af1, af2, af3, af4, af5⟩ := a0g HA9.out
   go_wp2_with fail
   refine bodyPost_ret (results_cell_row rfl _ _ w.heap.size 91 #[.int .i64 8, .int .i64 d, .int .i64 n, .int .i64 mm, .int .i64 0, .int .i64 0] (0, 0) _ rfl (b0k HA9.out ⟨8, d, n, mm, 0, 0⟩) Tryz.underlying91 rfl (by kernel_rfl)) rfl ?_
   rw [HM3.out]
   exact ⟨rfl, HR9.out.other6 hGw hrA ⟨8, d, n, mm, 0, 0⟩, a0x HG9.out (Nat.le_refl _) ⟨8, d, n, mm, 0, 0⟩⟩
  ·have HM3 := h_ (show addA s = (⟨7, d, n, 0, im, 0⟩, s5) by rw [HM2.out]; rfl)
   go_wp2_with fail
   refine (HHP.out _).mono ?_
   rintro e w9 ⟨rfl, rfl⟩
   have HC8 := h_ (HCC.out _ HR7.out)
   go_wp2_with fail
   refine (HC8.out).mono ?_
   rintro e w8 ⟨rfl, hr, hg⟩
   have HR8 := h_ hr
   have HG8 := h_ (a0a HG7.out hg)
   have HA8 := h_ (HA7.out.kept hg (by intro e; injection e; omega))
   have HB8 := h_ (HB7.out.kept hg (by intro e; injection e; omega))
   have hz8 := HA8.out.lt
   have hzb8 := HB8.out.lt
   clear hr hg HC8 HR7 HG7 HA7 HB7
   (try simp only [intV, e0n])
   obtain ⟨b0, b1, b2, b3, b4, b5⟩ := a0h HB8.out
   obtain ⟨bf0, bf1, bf2, bf3, bf4, bf5⟩ := a0g HB8.out
   have HB9 := h_ (show Blk (w8.setCell ⟨w2.heap.size, 0, none⟩ (.int .i64 7)) 91 (w2.heap.size) (b0r 7 d n 0 0 0) from by simpa [b0r] using HB8.out.set 0 (.int .i64 7))
   have HR9 := h_ (HR8.out.other hGB hrB 0 (.int .i64 7))
   have HG9 := h_ (b0v HG8.out hwB 0 (.int .i64 7))
   have HA9 := h_ (HA8.out.other (p := ⟨w2.heap.size, 0, none⟩) hAB (.int .i64 7))
   clear HR8 HG8 HA8 HB8
   have HB10 := h_ (show Blk ((w8.setCell ⟨w2.heap.size, 0, none⟩ (.int .i64 7)).setCell ⟨w2.heap.size, 4, none⟩ (.int .i64 im)) 91 (w2.heap.size) (b0r 7 d n 0 im 0) from by simpa [b0r] using HB9.out.set 4 (.int .i64 im))
   have HR10 := h_ (HR9.out.other hGB hrB 4 (.int .i64 im))
   have HG10 := h_ (b0v HG9.out hwB 4 (.int .i64 im))
   have HA10 := h_ (HA9.out.other (p := ⟨w2.heap.size, 4, none⟩) hAB (.int .i64 im))
   clear HR9 HG9 HA9 HB9
   obtain ⟨a0, a1, a2, a3, a4, a5⟩ := a0h HA10.out
   obtain ⟨af0, af1, af2, af3, af4, af5⟩ := a0g HA10.out
   go_wp2_with fail
   refine bodyPost_ret (results_cell_row rfl _ _ w.heap.size 91 #[.int .i64 7, .int .i64 d, .int .i64 n, .int .i64 0, .int .i64 im, .int .i64 0] (0, 0) _ rfl (b0k HA10.out ⟨7, d, n, 0, im, 0⟩) Tryz.underlying91 rfl (by kernel_rfl)) rfl ?_
   rw [HM3.out]
   exact ⟨rfl, HR10.out.other6 hGw hrA ⟨7, d, n, 0, im, 0⟩, a0x HG10.out (Nat.le_refl _) ⟨7, d, n, 0, im, 0⟩⟩
end
end Go.Proofs.YtmnojnopejhebaaGreat
