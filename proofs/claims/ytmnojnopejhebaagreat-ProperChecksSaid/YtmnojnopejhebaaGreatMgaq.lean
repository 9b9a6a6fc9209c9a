/- asm.Parse: a text's instruction. -/
import Derived.Test.YtmnojnopejhebaaGreatMgap
namespace Go.Proofs.YtmnojnopejhebaaGreat
set_option linter.unusedVariables false
set_option linter.unusedSimpArgs false
set_option maxRecDepth 100000
set_option maxHeartbeats 25600000
section
open Go.RowKit
theorem e0c {r G : Nat} {x : List UInt8} {ws : List (List UInt8)} {bad : Bool} (S : ByteArray) (hS : ba x = S) (w : World) (h : ARd w r G (x :: ws, bad)) :
  Calls Tryz.prog 157 #[.pointer (some ⟨r, 0, none⟩)] w fun e w' => e = .returned (.string S) ∧ ARd w' r G (ws, bad) ∧ w.grownBy w' (some r) := by
 refine (i0b w h).mono ?_
 rintro e w' ⟨rfl, h1, h2⟩
 exact ⟨by rw [← hS]; rfl, h1, h2⟩
theorem b1l {r G : Nat} {ws : List (List UInt8)} {bad : Bool} (w : World) (h : ARd w r G ([78, 79, 80] :: ws, bad)) :
  Calls Tryz.prog 147 #[.pointer (some ⟨r, 0, none⟩)] w (g0m r G w insV ((⟨1, 0, 0, 0, 0, 0⟩, (ws, bad)))) := by
 have hrl := h.lt
 have hGw := h.G_le
 have HA1 := h_ (a0u w 0 0 0 0 0 0)
 have HR1 := h_ (h.below (bl_ (Below.refl _ _) (.cells #[.int .i64 0, .int .i64 0, .int .i64 0, .int .i64 0, .int .i64 0, .int .i64 0] 91)))
 have HG1 := h_ (a0b (row := some r) (bl_ (Below.refl w.heap.size w) (.cells #[.int .i64 0, .int .i64 0, .int .i64 0, .int .i64 0, .int .i64 0, .int .i64 0] 91)))
 have hrA : r ≠ w.heap.size := by omega
 clear h
 go_enter Tryz.func147, Tryz.ntmps147
 have HC2 := h_ (e0c { data := #[78, 79, 80] } rfl _ HR1.out)
 go_wp2_with fail
 refine (HC2.out).mono ?_
 rintro e w2 ⟨rfl, hr, hg⟩
 have HR2 := h_ hr
 have HG2 := h_ (a0a HG1.out hg)
 have HA2 := h_ (HA1.out.kept hg (by intro e; injection e; omega))
 have hz2 := HA2.out.lt
 clear hr hg HC2 HR1 HG1 HA1
 obtain ⟨a0, a1, a2, a3, a4, a5⟩ := a0h HA2.out
 obtain ⟨af0, af1, af2, af3, af4, af5⟩ := a0g HA2.out
 go_wp2_with fail
 refine bodyPost_ret (results_cell_row rfl _ _ w.heap.size 91 #[.int .i64 1, .int .i64 0, .int .i64 0, .int .i64 0, .int .i64 0, .int .i64 0] (0, 0) _ rfl (b0k HA2.out ⟨1, 0, 0, 0, 0, 0⟩) Tryz.underlying91 rfl (by kernel_rfl)) rfl ?_
 exact ⟨rfl, HR2.out.other6 hGw hrA ⟨1, 0, 0, 0, 0, 0⟩, a0x HG2.out (Nat.le_refl _) ⟨1, 0, 0, 0, 0, 0⟩⟩
theorem b1n {r G : Nat} {ws : List (List UInt8)} {bad : Bool} (w : World) (h : ARd w r G ([73, 83, 66] :: ws, bad)) :
  Calls Tryz.prog 147 #[.pointer (some ⟨r, 0, none⟩)] w (g0m r G w insV ((⟨20, 0, 0, 0, 0, 0⟩, (ws, bad)))) := by
 have hrl := h.lt
 have hGw := h.G_le
 have HA1 := h_ (a0u w 0 0 0 0 0 0)
 have HR1 := h_ (h.below (bl_ (Below.refl _ _) (.cells #[.int .i64 0, .int .i64 0, .int .i64 0, .int .i64 0, .int .i64 0, .int .i64 0] 91)))
 have HG1 := h_ (a0b (row := some r) (bl_ (Below.refl w.heap.size w) (.cells #[.int .i64 0, .int .i64 0, .int .i64 0, .int .i64 0, .int .i64 0, .int .i64 0] 91)))
 have hrA : r ≠ w.heap.size := by omega
 clear h
 go_enter Tryz.func147, Tryz.ntmps147
 have HC2 := h_ (e0c { data := #[73, 83, 66] } rfl _ HR1.out)
 go_wp2_with fail
 refine (HC2.out).mono ?_
 rintro e w2 ⟨rfl, hr, hg⟩
 have HR2 := h_ hr
 have HG2 := h_ (a0a HG1.out hg)
 have HA2 := h_ (HA1.out.kept hg (by intro e; injection e; omega))
 have hz2 := HA2.out.lt
 clear hr hg HC2 HR1 HG1 HA1
 obtain ⟨a0, a1, a2, a3, a4, a5⟩ := a0h HA2.out
 obtain ⟨af0, af1, af2, af3, af4, af5⟩ := a0g HA2.out
 go_wp2_with fail
 refine bodyPost_ret (results_cell_row rfl _ _ w.heap.size 91 #[.int .i64 20, .int .i64 0, .int .i64 0, .int .i64 0, .int .i64 0, .int .i64 0] (0, 0) _ rfl (b0k HA2.out ⟨20, 0, 0, 0, 0, 0⟩) Tryz.underlying91 rfl (by kernel_rfl)) rfl ?_
 exact ⟨rfl, HR2.out.other6 hGw hrA ⟨20, 0, 0, 0, 0, 0⟩, a0x HG2.out (Nat.le_refl _) ⟨20, 0, 0, 0, 0, 0⟩⟩
theorem w0v {r G : Nat} {ws : List (List UInt8)} {bad : Bool} (w : World) (h : ARd w r G ([69, 82, 69, 84] :: ws, bad)) :
  Calls Tryz.prog 147 #[.pointer (some ⟨r, 0, none⟩)] w (g0m r G w insV ((⟨22, 0, 0, 0, 0, 0⟩, (ws, bad)))) := by
 have hrl := h.lt
 have hGw := h.G_le
 have HA1 := h_ (a0u w 0 0 0 0 0 0)
 have HR1 := h_ (h.below (bl_ (Below.refl _ _) (.cells #[.int .i64 0, .int .i64 0, .int .i64 0, .int .i64 0, .int .i64 0, .int .i64 0] 91)))
 have HG1 := h_ (a0b (row := some r) (bl_ (Below.refl w.heap.size w) (.cells #[.int .i64 0, .int .i64 0, .int .i64 0, .int .i64 0, .int .i64 0, .int .i64 0] 91)))
 have hrA : r ≠ w.heap.size := by omega
 clear h
 go_enter Tryz.func147, Tryz.ntmps147
 have HC2 := h_ (e0c { data := #[69, 82, 69, 84] } rfl _ HR1.out)
 go_wp2_with fail
 refine (HC2.out).mono ?_
 rintro e w2 ⟨rfl, hr, hg⟩
 have HR2 := h_ hr
 have HG2 := h_ (a0a HG1.out hg)
 have HA2 := h_ (HA1.out.kept hg (by intro e; injection e; omega))
 have hz2 := HA2.out.lt
 clear hr hg HC2 HR1 HG1 HA1
 obtain ⟨a0, a1, a2, a3, a4, a5⟩ := a0h HA2.out
 obtain ⟨af0, af1, af2, af3, af4, af5⟩ := a0g HA2.out
 go_wp2_with fail
 refine bodyPost_ret (results_cell_row rfl _ _ w.heap.size 91 #[.int .i64 22, .int .i64 0, .int .i64 0, .int .i64 0, .int .i64 0, .int .i64 0] (0, 0) _ rfl (b0k HA2.out ⟨22, 0, 0, 0, 0, 0⟩) Tryz.underlying91 rfl (by kernel_rfl)) rfl ?_
 exact ⟨rfl, HR2.out.other6 hGw hrA ⟨22, 0, 0, 0, 0, 0⟩, a0x HG2.out (Nat.le_refl _) ⟨22, 0, 0, 0, 0, 0⟩⟩
theorem b1q {r G : Nat} {ws : List (List UInt8)} {bad : Bool} (w : World) (h : ARd w r G ([67, 77, 80] :: ws, bad)) :
  Calls Tryz.prog 147 #[.pointer (some ⟨r, 0, none⟩)] w (g0m r G w insV (cmpA (ws, bad))) := by
 have hrl := h.lt
 have hGw := h.G_le
 have HA1 := h_ (a0u w 0 0 0 0 0 0)
 have HR1 := h_ (h.below (bl_ (Below.refl _ _) (.cells #[.int .i64 0, .int .i64 0, .int .i64 0, .int .i64 0, .int .i64 0, .int .i64 0] 91)))
 have HG1 := h_ (a0b (row := some r) (bl_ (Below.refl w.heap.size w) (.cells #[.int .i64 0, .int .i64 0, .int .i64 0, .int .i64 0, .int .i64 0, .int .i64 0] 91)))
 have hrA : r ≠ w.heap.size := by omega
 clear h
 go_enter Tryz.func147, Tryz.ntmps147
 have HC2 := h_ (e0c { data := #[67, 77, 80] } rfl _ HR1.out)
 go_wp2_with fail
 refine (HC2.out).mono ?_
 rintro e w2 ⟨rfl, hr, hg⟩
 have HR2 := h_ hr
 have HG2 := h_ (a0a HG1.out hg)
 have HA2 := h_ (HA1.out.kept hg (by intro e; injection e; omega))
 have hz2 := HA2.out.lt
 clear hr hg HC2 HR1 HG1 HA1
 have HC3 := h_ (e0r _ HR2.out)
 go_wp2_with fail
 refine (HC3.out).mono ?_
 rintro e w3 ⟨rfl, hr, hg⟩
 have HR3 := h_ hr
 have HG3 := h_ (a0a HG2.out hg)
 have HA3 := h_ (HA2.out.kept hg (by intro e; injection e; omega))
 have hz3 := HA3.out.lt
 clear hr hg HC3 HR2 HG2 HA2
 (try simp only [intV, e0n])
 have HB4 := h_ (a0u w3 13 31 (regA (ws, bad)).1 0 0 0)
 have HR4 := h_ (HR3.out.below (bl_ (Below.refl (w3).heap.size w3) (.cells #[.int .i64 13, .int .i64 31, .int .i64 (regA (ws, bad)).1, .int .i64 0, .int .i64 0, .int .i64 0] 91)))
 have HG4 := h_ (a0a HG3.out (a0b (bl_ (Below.refl (w3).heap.size w3) (.cells #[.int .i64 13, .int .i64 31, .int .i64 (regA (ws, bad)).1, .int .i64 0, .int .i64 0, .int .i64 0] 91))))
 have HA4 := h_ (HA3.out.alloc (.cells #[.int .i64 13, .int .i64 31, .int .i64 (regA (ws, bad)).1, .int .i64 0, .int .i64 0, .int .i64 0] 91))
 have hAB : w.heap.size ≠ (w3).heap.size := by omega
 have hrB : r ≠ (w3).heap.size := by omega
 have hGB : G ≤ (w3).heap.size := by omega
 have hwB : w.heap.size ≤ (w3).heap.size := by omega
 clear HR3 HG3 HA3
 have HC5 := h_ (d0o _ [44] HR4.out)
 go_wp2_with fail
 refine (HC5.out).mono ?_
 rintro e w5 ⟨rfl, hr, hg⟩
 have HR5 := h_ hr
 have HG5 := h_ (a0a HG4.out hg)
 have HA5 := h_ (HA4.out.kept hg (by intro e; injection e; omega))
 have HB5 := h_ (HB4.out.kept hg (by intro e; injection e; omega))
 have hz5 := HA5.out.lt
 have hzb5 := HB5.out.lt
 clear hr hg HC5 HR4 HG4 HA4 HB4
 (try simp only [intV, e0n])
 have HC6 := h_ (e0r _ HR5.out)
 go_wp2_with fail
 refine (HC6.out).mono ?_
 rintro e w6 ⟨rfl, hr, hg⟩
 have HR6 := h_ hr
 have HG6 := h_ (a0a HG5.out hg)
 have HA6 := h_ (HA5.out.kept hg (by intro e; injection e; omega))
 have HB6 := h_ (HB5.out.kept hg (by intro e; injection e; omega))
 have hz6 := HA6.out.lt
 have hzb6 := HB6.out.lt
 clear hr hg HC6 HR5 HG5 HA5 HB5
 (try simp only [intV, e0n])
 obtain ⟨b0, b1, b2, b3, b4, b5⟩ := a0h HB6.out
 obtain ⟨bf0, bf1, bf2, bf3, bf4, bf5⟩ := a0g HB6.out
 have HB7 := h_ (show Blk (w6.setCell ⟨w3.heap.size, 3, none⟩ (.int .i64 (regA (a0d (regA (ws, bad)).2 [44])).1)) 91 (w3.heap.size) (b0r 13 31 (regA (ws, bad)).1 (regA (a0d (regA (ws, bad)).2 [44])).1 0 0) from by simpa [b0r] using HB6.out.set 3 (.int .i64 (regA (a0d (regA (ws, bad)).2 [44])).1))
 have HR7 := h_ (HR6.out.other hGB hrB 3 (.int .i64 (regA (a0d (regA (ws, bad)).2 [44])).1))
 have HG7 := h_ (b0v HG6.out hwB 3 (.int .i64 (regA (a0d (regA (ws, bad)).2 [44])).1))
 have HA7 := h_ (HA6.out.other (p := ⟨w3.heap.size, 3, none⟩) hAB (.int .i64 (regA (a0d (regA (ws, bad)).2 [44])).1))
 clear HR6 HG6 HA6 HB6
 obtain ⟨a0, a1, a2, a3, a4, a5⟩ := a0h HA7.out
 obtain ⟨af0, af1, af2, af3, af4, af5⟩ := a0g HA7.out
 go_wp2_with fail
 refine bodyPost_ret (results_cell_row rfl _ _ w.heap.size 91 #[.int .i64 13, .int .i64 31, .int .i64 (regA (ws, bad)).1, .int .i64 (regA (a0d (regA (ws, bad)).2 [44])).1, .int .i64 0, .int .i64 0] (0, 0) _ rfl (b0k HA7.out ⟨13, 31, (regA (ws, bad)).1, (regA (a0d (regA (ws, bad)).2 [44])).1, 0, 0⟩) Tryz.underlying91 rfl (by kernel_rfl)) rfl ?_
 exact ⟨rfl, HR7.out.other6 hGw hrA ⟨13, 31, (regA (ws, bad)).1, (regA (a0d (regA (ws, bad)).2 [44])).1, 0, 0⟩, a0x HG7.out (Nat.le_refl _) ⟨13, 31, (regA (ws, bad)).1, (regA (a0d (regA (ws, bad)).2 [44])).1, 0, 0⟩⟩
theorem l1h {r G : Nat} {ws : List (List UInt8)} {bad : Bool} (w : World) (h : ARd w r G ([66] :: ws, bad)) :
  Calls Tryz.prog 147 #[.pointer (some ⟨r, 0, none⟩)] w (g0m r G w insV ((⟨14, 0, 0, 0, (b0f (ws, bad)).1, 0⟩, (b0f (ws, bad)).2))) := by
 have hrl := h.lt
 have hGw := h.G_le
 have HA1 := h_ (a0u w 0 0 0 0 0 0)
 have HR1 := h_ (h.below (bl_ (Below.refl _ _) (.cells #[.int .i64 0, .int .i64 0, .int .i64 0, .int .i64 0, .int .i64 0, .int .i64 0] 91)))
 have HG1 := h_ (a0b (row := some r) (bl_ (Below.refl w.heap.size w) (.cells #[.int .i64 0, .int .i64 0, .int .i64 0, .int .i64 0, .int .i64 0, .int .i64 0] 91)))
 have hrA : r ≠ w.heap.size := by omega
 clear h
 go_enter Tryz.func147, Tryz.ntmps147
 have HC2 := h_ (e0c { data := #[66] } rfl _ HR1.out)
 go_wp2_with fail
 refine (HC2.out).mono ?_
 rintro e w2 ⟨rfl, hr, hg⟩
 have HR2 := h_ hr
 have HG2 := h_ (a0a HG1.out hg)
 have HA2 := h_ (HA1.out.kept hg (by intro e; injection e; omega))
 have hz2 := HA2.out.lt
 clear hr hg HC2 HR1 HG1 HA1
 have HC3 := h_ (j0w _ HR2.out)
 go_wp2_with fail
 refine (HC3.out).mono ?_
 rintro e w3 ⟨rfl, hr, hg⟩
 have HR3 := h_ hr
 have HG3 := h_ (a0a HG2.out hg)
 have HA3 := h_ (HA2.out.kept hg (by intro e; injection e; omega))
 have hz3 := HA3.out.lt
 clear hr hg HC3 HR2 HG2 HA2
 (try simp only [intV, e0n])
 obtain ⟨a0, a1, a2, a3, a4, a5⟩ := a0h HA3.out
 obtain ⟨af0, af1, af2, af3, af4, af5⟩ := a0g HA3.out
 go_wp2_with fail
 refine bodyPost_ret (results_cell_row rfl _ _ w.heap.size 91 #[.int .i64 14, .int .i64 0, .int .i64 0, .int .i64 0, .int .i64 (b0f (ws, bad)).1, .int .i64 0] (0, 0) _ rfl (b0k HA3.out ⟨14, 0, 0, 0, (b0f (ws, bad)).1, 0⟩) Tryz.underlying91 rfl (by kernel_rfl)) rfl ?_
 exact ⟨rfl, HR3.out.other6 hGw hrA ⟨14, 0, 0, 0, (b0f (ws, bad)).1, 0⟩, a0x HG3.out (Nat.le_refl _) ⟨14, 0, 0, 0, (b0f (ws, bad)).1, 0⟩⟩
theorem b1s {r G : Nat} {ws : List (List UInt8)} {bad : Bool} (w : World) (h : ARd w r G ([66, 46, 69, 81] :: ws, bad)) :
  Calls Tryz.prog 147 #[.pointer (some ⟨r, 0, none⟩)] w (g0m r G w insV ((⟨17, 0, 0, 0, (b0f (ws, bad)).1, 0⟩, (b0f (ws, bad)).2))) := by
 have hrl := h.lt
 have hGw := h.G_le
 have HA1 := h_ (a0u w 0 0 0 0 0 0)
 have HR1 := h_ (h.below (bl_ (Below.refl _ _) (.cells #[.int .i64 0, .int .i64 0, .int .i64 0, .int .i64 0, .int .i64 0, .int .i64 0] 91)))
 have HG1 := h_ (a0b (row := some r) (bl_ (Below.refl w.heap.size w) (.cells #[.int .i64 0, .int .i64 0, .int .i64 0, .int .i64 0, .int .i64 0, .int .i64 0] 91)))
 have hrA : r ≠ w.heap.size := by omega
 clear h
 go_enter Tryz.func147, Tryz.ntmps147
 have HC2 := h_ (e0c { data := #[66, 46, 69, 81] } rfl _ HR1.out)
 go_wp2_with fail
 refine (HC2.out).mono ?_
 rintro e w2 ⟨rfl, hr, hg⟩
 have HR2 := h_ hr
 have HG2 := h_ (a0a HG1.out hg)
 have HA2 := h_ (HA1.out.kept hg (by intro e; injection e; omega))
 have hz2 := HA2.out.lt
 clear hr hg HC2 HR1 HG1 HA1
 have HC3 := h_ (j0w _ HR2.out)
 go_wp2_with fail
 refine (HC3.out).mono ?_
 rintro e w3 ⟨rfl, hr, hg⟩
 have HR3 := h_ hr
 have HG3 := h_ (a0a HG2.out hg)
 have HA3 := h_ (HA2.out.kept hg (by intro e; injection e; omega))
 have hz3 := HA3.out.lt
 clear hr hg HC3 HR2 HG2 HA2
 (try simp only [intV, e0n])
 obtain ⟨a0, a1, a2, a3, a4, a5⟩ := a0h HA3.out
 obtain ⟨af0, af1, af2, af3, af4, af5⟩ := a0g HA3.out
 go_wp2_with fail
 refine bodyPost_ret (results_cell_row rfl _ _ w.heap.size 91 #[.int .i64 17, .int .i64 0, .int .i64 0, .int .i64 0, .int .i64 (b0f (ws, bad)).1, .int .i64 0] (0, 0) _ rfl (b0k HA3.out ⟨17, 0, 0, 0, (b0f (ws, bad)).1, 0⟩) Tryz.underlying91 rfl (by kernel_rfl)) rfl ?_
 exact ⟨rfl, HR3.out.other6 hGw hrA ⟨17, 0, 0, 0, (b0f (ws, bad)).1, 0⟩, a0x HG3.out (Nat.le_refl _) ⟨17, 0, 0, 0, (b0f (ws, bad)).1, 0⟩⟩
theorem b1r {r G : Nat} {ws : List (List UInt8)} {bad : Bool} (w : World) (h : ARd w r G ([66, 46, 78, 69] :: ws, bad)) :
  Calls Tryz.prog 147 #[.pointer (some ⟨r, 0, none⟩)] w (g0m r G w insV ((⟨17, 0, 0, 0, (b0f (ws, bad)).1, 1⟩, (b0f (ws, bad)).2))) := by
 have hrl := h.lt
 have hGw := h.G_le
 have HA1 := h_ (a0u w 0 0 0 0 0 0)
 have HR1 := h_ (h.below (bl_ (Below.refl _ _) (.cells #[.int .i64 0, .int .i64 0, .int .i64 0, .int .i64 0, .int .i64 0, .int .i64 0] 91)))
 have HG1 := h_ (a0b (row := some r) (bl_ (Below.refl w.heap.size w) (.cells #[.int .i64 0, .int .i64 0, .int .i64 0, .int .i64 0, .int .i64 0, .int .i64 0] 91)))
 have hrA : r ≠ w.heap.size := by omega
 clear h
 go_enter Tryz.func147, Tryz.ntmps147
 have HC2 := h_ (e0c { data := #[66, 46, 78, 69] } rfl _ HR1.out)
 go_wp2_with fail
 refine (HC2.out).mono ?_
 rintro e w2 ⟨rfl, hr, hg⟩
 have HR2 := h_ hr
 have HG2 := h_ (a0a HG1.out hg)
 have HA2 := h_ (HA1.out.kept hg (by intro e; injection e; omega))
 have hz2 := HA2.out.lt
 clear hr hg HC2 HR1 HG1 HA1
 have HC3 := h_ (j0w _ HR2.out)
 go_wp2_with fail
 refine (HC3.out).mono ?_
 rintro e w3 ⟨rfl, hr, hg⟩
 have HR3 := h_ hr
 have HG3 := h_ (a0a HG2.out hg)
 have HA3 := h_ (HA2.out.kept hg (by intro e; injection e; omega))
 have hz3 := HA3.out.lt
 clear hr hg HC3 HR2 HG2 HA2
 (try simp only [intV, e0n])
 obtain ⟨a0, a1, a2, a3, a4, a5⟩ := a0h HA3.out
 obtain ⟨af0, af1, af2, af3, af4, af5⟩ := a0g HA3.out
 go_wp2_with fail
 refine bodyPost_ret (results_cell_row rfl _ _ w.heap.size 91 #[.int .i64 17, .int .i64 0, .int .i64 0, .int .i64 0, .int .i64 (b0f (ws, bad)).1, .int .i64 1] (0, 0) _ rfl (b0k HA3.out ⟨17, 0, 0, 0, (b0f (ws, bad)).1, 1⟩) Tryz.underlying91 rfl (by kernel_rfl)) rfl ?_
 exact ⟨rfl, HR3.out.other6 hGw hrA ⟨17, 0, 0, 0, (b0f (ws, bad)).1, 1⟩, a0x HG3.out (Nat.le_refl _) ⟨17, 0, 0, 0, (b0f (ws, bad)).1, 1⟩⟩
theorem b1p {r G : Nat} {ws : List (List UInt8)} {bad : Bool} (w : World) (h : ARd w r G ([68, 77, 66] :: ws, bad)) :
  Calls Tryz.prog 147 #[.pointer (some ⟨r, 0, none⟩)] w (g0m r G w insV ((⟨18, 0, 0, 0, 0, (e0a (ws, bad) 16 barN).1⟩, (e0a (ws, bad) 16 barN).2))) := by
 have hrl := h.lt
 have hGw := h.G_le
 have HA1 := h_ (a0u w 0 0 0 0 0 0)
 have HR1 := h_ (h.below (bl_ (Below.refl _ _) (.cells #[.int .i64 0, .int .i64 0, .int .i64 0, .int .i64 0, .int .i64 0, .int .i64 0] 91)))
 have HG1 := h_ (a0b (row := some r) (bl_ (Below.refl w.heap.size w) (.cells #[.int .i64 0, .int .i64 0, .int .i64 0, .int .i64 0, .int .i64 0, .int .i64 0] 91)))
 have hrA : r ≠ w.heap.size := by omega
 clear h
 go_enter Tryz.func147, Tryz.ntmps147
 have HC2 := h_ (e0c { data := #[68, 77, 66] } rfl _ HR1.out)
 go_wp2_with fail
 refine (HC2.out).mono ?_
 rintro e w2 ⟨rfl, hr, hg⟩
 have HR2 := h_ hr
 have HG2 := h_ (a0a HG1.out hg)
 have HA2 := h_ (HA1.out.kept hg (by intro e; injection e; omega))
 have hz2 := HA2.out.lt
 clear hr hg HC2 HR1 HG1 HA1
 have HC3 := h_ (m0j _ 143 16 barN u0s (by decide) x0z HR2.out)
 go_wp2_with fail
 refine (HC3.out).mono ?_
 rintro e w3 ⟨rfl, hr, hg⟩
 have HR3 := h_ hr
 have HG3 := h_ (a0a HG2.out hg)
 have HA3 := h_ (HA2.out.kept hg (by intro e; injection e; omega))
 have hz3 := HA3.out.lt
 clear hr hg HC3 HR2 HG2 HA2
 (try simp only [intV, e0n])
 obtain ⟨a0, a1, a2, a3, a4, a5⟩ := a0h HA3.out
 obtain ⟨af0, af1, af2, af3, af4, af5⟩ := a0g HA3.out
 go_wp2_with fail
 refine bodyPost_ret (results_cell_row rfl _ _ w.heap.size 91 #[.int .i64 18, .int .i64 0, .int .i64 0, .int .i64 0, .int .i64 0, .int .i64 (e0a (ws, bad) 16 barN).1] (0, 0) _ rfl (b0k HA3.out ⟨18, 0, 0, 0, 0, (e0a (ws, bad) 16 barN).1⟩) Tryz.underlying91 rfl (by kernel_rfl)) rfl ?_
 exact ⟨rfl, HR3.out.other6 hGw hrA ⟨18, 0, 0, 0, 0, (e0a (ws, bad) 16 barN).1⟩, a0x HG3.out (Nat.le_refl _) ⟨18, 0, 0, 0, 0, (e0a (ws, bad) 16 barN).1⟩⟩
theorem b1o {r G : Nat} {ws : List (List UInt8)} {bad : Bool} (w : World) (h : ARd w r G ([68, 83, 66] :: ws, bad)) :
  Calls Tryz.prog 147 #[.pointer (some ⟨r, 0, none⟩)] w (g0m r G w insV ((⟨19, 0, 0, 0, 0, (e0a (ws, bad) 16 barN).1⟩, (e0a (ws, bad) 16 barN).2))) := by
 have hrl := h.lt
 have hGw := h.G_le
 have HA1 := h_ (a0u w 0 0 0 0 0 0)
 have HR1 := h_ (h.below (bl_ (Below.refl _ _) (.cells #[.int .i64 0, .int .i64 0, .int .i64 0, .int .i64 0, .int .i64 0, .int .i64 0] 91)))
 have HG1 := h_ (a0b (row := some r) (bl_ (Below.refl w.heap.size w) (.cells #[.int .i64 0, .int .i64 0, .int .i64 0, .int .i64 0, .int .i64 0, .int .i64 0] 91)))
 have hrA : r ≠ w.heap.size := by omega
 clear h
 go_enter Tryz.func147, Tryz.ntmps147
 have HC2 := h_ (e0c { data := #[68, 83, 66] } rfl _ HR1.out)
 go_wp2_with fail
 refine (HC2.out).mono ?_
 rintro e w2 ⟨rfl, hr, hg⟩
 have HR2 := h_ hr
 have HG2 := h_ (a0a HG1.out hg)
 have HA2 := h_ (HA1.out.kept hg (by intro e; injection e; omega))
 have hz2 := HA2.out.lt
 clear hr hg HC2 HR1 HG1 HA1
 have HC3 := h_ (m0j _ 143 16 barN u0s (by decide) x0z HR2.out)
 go_wp2_with fail
 refine (HC3.out).mono ?_
 rintro e w3 ⟨rfl, hr, hg⟩
 have HR3 := h_ hr
 have HG3 := h_ (a0a HG2.out hg)
 have HA3 := h_ (HA2.out.kept hg (by intro e; injection e; omega))
 have hz3 := HA3.out.lt
 clear hr hg HC3 HR2 HG2 HA2
 (try simp only [intV, e0n])
 obtain ⟨a0, a1, a2, a3, a4, a5⟩ := a0h HA3.out
 obtain ⟨af0, af1, af2, af3, af4, af5⟩ := a0g HA3.out
 go_wp2_with fail
 refine bodyPost_ret (results_cell_row rfl _ _ w.heap.size 91 #[.int .i64 19, .int .i64 0, .int .i64 0, .int .i64 0, .int .i64 0, .int .i64 (e0a (ws, bad) 16 barN).1] (0, 0) _ rfl (b0k HA3.out ⟨19, 0, 0, 0, 0, (e0a (ws, bad) 16 barN).1⟩) Tryz.underlying91 rfl (by kernel_rfl)) rfl ?_
 exact ⟨rfl, HR3.out.other6 hGw hrA ⟨19, 0, 0, 0, 0, (e0a (ws, bad) 16 barN).1⟩, a0x HG3.out (Nat.le_refl _) ⟨19, 0, 0, 0, 0, (e0a (ws, bad) 16 barN).1⟩⟩
theorem b1m {r G : Nat} {ws : List (List UInt8)} {bad : Bool} (w : World) (h : ARd w r G ([77, 82, 83] :: ws, bad)) :
  Calls Tryz.prog 147 #[.pointer (some ⟨r, 0, none⟩)] w (g0m r G w insV (mrsA (ws, bad))) := by
 have hrl := h.lt
 have hGw := h.G_le
 have HA1 := h_ (a0u w 0 0 0 0 0 0)
 have HR1 := h_ (h.below (bl_ (Below.refl _ _) (.cells #[.int .i64 0, .int .i64 0, .int .i64 0, .int .i64 0, .int .i64 0, .int .i64 0] 91)))
 have HG1 := h_ (a0b (row := some r) (bl_ (Below.refl w.heap.size w) (.cells #[.int .i64 0, .int .i64 0, .int .i64 0, .int .i64 0, .int .i64 0, .int .i64 0] 91)))
 have hrA : r ≠ w.heap.size := by omega
 clear h
 go_enter Tryz.func147, Tryz.ntmps147
 have HC2 := h_ (e0c { data := #[77, 82, 83] } rfl _ HR1.out)
 go_wp2_with fail
 refine (HC2.out).mono ?_
 rintro e w2 ⟨rfl, hr, hg⟩
 have HR2 := h_ hr
 have HG2 := h_ (a0a HG1.out hg)
 have HA2 := h_ (HA1.out.kept hg (by intro e; injection e; omega))
 have hz2 := HA2.out.lt
 clear hr hg HC2 HR1 HG1 HA1
 have HC3 := h_ (e0r _ HR2.out)
 go_wp2_with fail
 refine (HC3.out).mono ?_
 rintro e w3 ⟨rfl, hr, hg⟩
 have HR3 := h_ hr
 have HG3 := h_ (a0a HG2.out hg)
 have HA3 := h_ (HA2.out.kept hg (by intro e; injection e; omega))
 have hz3 := HA3.out.lt
 clear hr hg HC3 HR2 HG2 HA2
 (try simp only [intV, e0n])
 have HB4 := h_ (a0u w3 23 (regA (ws, bad)).1 0 0 0 0)
 have HR4 := h_ (HR3.out.below (bl_ (Below.refl (w3).heap.size w3) (.cells #[.int .i64 23, .int .i64 (regA (ws, bad)).1, .int .i64 0, .int .i64 0, .int .i64 0, .int .i64 0] 91)))
 have HG4 := h_ (a0a HG3.out (a0b (bl_ (Below.refl (w3).heap.size w3) (.cells #[.int .i64 23, .int .i64 (regA (ws, bad)).1, .int .i64 0, .int .i64 0, .int .i64 0, .int .i64 0] 91))))
 have HA4 := h_ (HA3.out.alloc (.cells #[.int .i64 23, .int .i64 (regA (ws, bad)).1, .int .i64 0, .int .i64 0, .int .i64 0, .int .i64 0] 91))
 have hAB : w.heap.size ≠ (w3).heap.size := by omega
 have hrB : r ≠ (w3).heap.size := by omega
 have hGB : G ≤ (w3).heap.size := by omega
 have hwB : w.heap.size ≤ (w3).heap.size := by omega
 clear HR3 HG3 HA3
 have HC5 := h_ (d0o _ [44] HR4.out)
 go_wp2_with fail
 refine (HC5.out).mono ?_
 rintro e w5 ⟨rfl, hr, hg⟩
 have HR5 := h_ hr
 have HG5 := h_ (a0a HG4.out hg)
 have HA5 := h_ (HA4.out.kept hg (by intro e; injection e; omega))
 have HB5 := h_ (HB4.out.kept hg (by intro e; injection e; omega))
 have hz5 := HA5.out.lt
 have hzb5 := HB5.out.lt
 clear hr hg HC5 HR4 HG4 HA4 HB4
 (try simp only [intV, e0n])
 have HC6 := h_ (m0j _ 145 3 sysN c1j (by decide) k1d HR5.out)
 go_wp2_with fail
 refine (HC6.out).mono ?_
 rintro e w6 ⟨rfl, hr, hg⟩
 have HR6 := h_ hr
 have HG6 := h_ (a0a HG5.out hg)
 have HA6 := h_ (HA5.out.kept hg (by intro e; injection e; omega))
 have HB6 := h_ (HB5.out.kept hg (by intro e; injection e; omega))
 have hz6 := HA6.out.lt
 have hzb6 := HB6.out.lt
 clear hr hg HC6 HR5 HG5 HA5 HB5
 (try simp only [intV, e0n])
 obtain ⟨b0, b1, b2, b3, b4, b5⟩ := a0h HB6.out
 obtain ⟨bf0, bf1, bf2, bf3, bf4, bf5⟩ := a0g HB6.out
 have HB7 := h_ (show Blk (w6.setCell ⟨w3.heap.size, 5, none⟩ (.int .i64 (e0a (a0d (regA (ws, bad)).2 [44]) 3 sysN).1)) 91 (w3.heap.size) (b0r 23 (regA (ws, bad)).1 0 0 0 (e0a (a0d (regA (ws, bad)).2 [44]) 3 sysN).1) from by simpa [b0r] using HB6.out.set 5 (.int .i64 (e0a (a0d (regA (ws, bad)).2 [44]) 3 sysN).1))
 have HR7 := h_ (HR6.out.other hGB hrB 5 (.int .i64 (e0a (a0d (regA (ws, bad)).2 [44]) 3 sysN).1))
 have HG7 := h_ (b0v HG6.out hwB 5 (.int .i64 (e0a (a0d (regA (ws, bad)).2 [44]) 3 sysN).1))
 have HA7 := h_ (HA6.out.other (p := ⟨w3.heap.size, 5, none⟩) hAB (.int .i64 (e0a (a0d (regA (ws, bad)).2 [44]) 3 sysN).1))
 clear HR6 HG6 HA6 HB6
 obtain ⟨a0, a1, a2, a3, a4, a5⟩ := a0h HA7.out
 obtain ⟨af0, af1, af2, af3, af4, af5⟩ := a0g HA7.out
 go_wp2_with fail
 refine bodyPost_ret (results_cell_row rfl _ _ w.heap.size 91 #[.int .i64 23, .int .i64 (regA (ws, bad)).1, .int .i64 0, .int .i64 0, .int .i64 0, .int .i64 (e0a (a0d (regA (ws, bad)).2 [44]) 3 sysN).1] (0, 0) _ rfl (b0k HA7.out ⟨23, (regA (ws, bad)).1, 0, 0, 0, (e0a (a0d (regA (ws, bad)).2 [44]) 3 sysN).1⟩) Tryz.underlying91 rfl (by kernel_rfl)) rfl ?_
 exact ⟨rfl, HR7.out.other6 hGw hrA ⟨23, (regA (ws, bad)).1, 0, 0, 0, (e0a (a0d (regA (ws, bad)).2 [44]) 3 sysN).1⟩, a0x HG7.out (Nat.le_refl _) ⟨23, (regA (ws, bad)).1, 0, 0, 0, (e0a (a0d (regA (ws, bad)).2 [44]) 3 sysN).1⟩⟩
theorem c0h {r G : Nat} {ws : List (List UInt8)} {bad : Bool} (w : World) (x : List UInt8) (S : ByteArray) (hS : ba x = S) (hx : (x = [76, 68, 82] ∧ S = ⟨#[76, 68, 82]⟩) ∨ (x = [83, 84, 82] ∧ S = ⟨#[83, 84, 82]⟩) ∨ (x = [76, 68, 65, 82] ∧ S = ⟨#[76, 68, 65, 82]⟩) ∨ (x = [83, 84, 76, 82] ∧ S = ⟨#[83, 84, 76, 82]⟩) ∨ (x = [77, 79, 86] ∧ S = ⟨#[77, 79, 86]⟩) ∨ (x = [77, 79, 86, 90] ∧ S = ⟨#[77, 79, 86, 90]⟩) ∨ (x = [65, 68, 68] ∧ S = ⟨#[65, 68, 68]⟩) ∨ (x = [83, 85, 66] ∧ S = ⟨#[83, 85, 66]⟩) ∨ (x = [65, 78, 68] ∧ S = ⟨#[65, 78, 68]⟩) ∨ (x = [79, 82, 82] ∧ S = ⟨#[79, 82, 82]⟩) ∨ (x = [69, 79, 82] ∧ S = ⟨#[69, 79, 82]⟩) ∨ (x = [83, 85, 66, 83] ∧ S = ⟨#[83, 85, 66, 83]⟩) ∨ (x = [67, 66, 90] ∧ S = ⟨#[67, 66, 90]⟩) ∨ (x = [67, 66, 78, 90] ∧ S = ⟨#[67, 66, 78, 90]⟩) ∨ (x = [84, 76, 66, 73] ∧ S = ⟨#[84, 76, 66, 73]⟩)) (h : ARd w r G (x :: ws, bad)) :
  Calls Tryz.prog 147 #[.pointer (some ⟨r, 0, none⟩)] w (g0m r G w insV (e0l (x :: ws, bad))) := by
 have hrl := h.lt
 have hGw := h.G_le
 have HA1 := h_ (a0u w 0 0 0 0 0 0)
 have HR1 := h_ (h.below (bl_ (Below.refl _ _) (.cells #[.int .i64 0, .int .i64 0, .int .i64 0, .int .i64 0, .int .i64 0, .int .i64 0] 91)))
 have HG1 := h_ (a0b (row := some r) (bl_ (Below.refl w.heap.size w) (.cells #[.int .i64 0, .int .i64 0, .int .i64 0, .int .i64 0, .int .i64 0, .int .i64 0] 91)))
 have hrA : r ≠ w.heap.size := by omega
 clear h
 go_enter Tryz.func147, Tryz.ntmps147
 have HC2 := h_ (e0c S hS _ HR1.out)
 go_wp2_with fail
 refine (HC2.out).mono ?_
 rintro e w2 ⟨rfl, hr, hg⟩
 have HR2 := h_ hr
 have HG2 := h_ (a0a HG1.out hg)
 have HA2 := h_ (HA1.out.kept hg (by intro e; injection e; omega))
 have hz2 := HA2.out.lt
 clear hr hg HC2 HR1 HG1 HA1
 have HX := h_ hx
 clear hx hS
 have hx := HX.out
 clear HX
 rcases hx with ⟨rfl, rfl⟩ | ⟨rfl, rfl⟩ | ⟨rfl, rfl⟩ | ⟨rfl, rfl⟩ | ⟨rfl, rfl⟩ | ⟨rfl, rfl⟩ | ⟨rfl, rfl⟩ | ⟨rfl, rfl⟩ | ⟨rfl, rfl⟩ | ⟨rfl, rfl⟩ | ⟨rfl, rfl⟩ | ⟨rfl, rfl⟩ | ⟨rfl, rfl⟩ | ⟨rfl, rfl⟩ | ⟨rfl, rfl⟩
 focus (
  have HXM := h_ (show e0l ([76, 68, 82] :: ws, bad) = g0g (ws, bad) 2 from rfl)
  go_wp2_with fail
  refine (j0v _ 2 HR2.out).mono ?_
  rintro e w3 ⟨rfl, hr, hg⟩
  generalize g0g (ws, bad) 2 = y at *)
 rotate_left
 focus (
  have HXM := h_ (show e0l ([83, 84, 82] :: ws, bad) = g0g (ws, bad) 3 from rfl)
  go_wp2_with fail
  refine (j0v _ 3 HR2.out).mono ?_
  rintro e w3 ⟨rfl, hr, hg⟩
  generalize g0g (ws, bad) 3 = y at *)
 rotate_left
 focus (
  have HXM := h_ (show e0l ([76, 68, 65, 82] :: ws, bad) = g0g (ws, bad) 4 from rfl)
  go_wp2_with fail
  refine (j0v _ 4 HR2.out).mono ?_
  rintro e w3 ⟨rfl, hr, hg⟩
  generalize g0g (ws, bad) 4 = y at *)
 rotate_left
 focus (
  have HXM := h_ (show e0l ([83, 84, 76, 82] :: ws, bad) = g0g (ws, bad) 5 from rfl)
  go_wp2_with fail
  refine (j0v _ 5 HR2.out).mono ?_
  rintro e w3 ⟨rfl, hr, hg⟩
  generalize g0g (ws, bad) 5 = y at *)
 rotate_left
 focus (
  have HXM := h_ (show e0l ([77, 79, 86] :: ws, bad) = moveA (ws, bad) from rfl)
  go_wp2_with fail
  refine (u0v _ HR2.out).mono ?_
  rintro e w3 ⟨rfl, hr, hg⟩
  generalize moveA (ws, bad) = y at *)
 rotate_left
 focus (
  have HXM := h_ (show e0l ([77, 79, 86, 90] :: ws, bad) = moveA (ws, bad) from rfl)
  go_wp2_with fail
  refine (u0v _ HR2.out).mono ?_
  rintro e w3 ⟨rfl, hr, hg⟩
  generalize moveA (ws, bad) = y at *)
 rotate_left
 focus (
  have HXM := h_ (show e0l ([65, 68, 68] :: ws, bad) = addA (ws, bad) from rfl)
  go_wp2_with fail
  refine (l1i _ HR2.out).mono ?_
  rintro e w3 ⟨rfl, hr, hg⟩
  generalize addA (ws, bad) = y at *)
 rotate_left
 focus (
  have HXM := h_ (show e0l ([83, 85, 66] :: ws, bad) = h0c (ws, bad) 9 from rfl)
  go_wp2_with fail
  refine (j0f _ 9 HR2.out).mono ?_
  rintro e w3 ⟨rfl, hr, hg⟩
  generalize h0c (ws, bad) 9 = y at *)
 rotate_left
 focus (
  have HXM := h_ (show e0l ([65, 78, 68] :: ws, bad) = h0c (ws, bad) 10 from rfl)
  go_wp2_with fail
  refine (j0f _ 10 HR2.out).mono ?_
  rintro e w3 ⟨rfl, hr, hg⟩
  generalize h0c (ws, bad) 10 = y at *)
 rotate_left
 focus (
  have HXM := h_ (show e0l ([79, 82, 82] :: ws, bad) = h0c (ws, bad) 11 from rfl)
  go_wp2_with fail
  refine (j0f _ 11 HR2.out).mono ?_
  rintro e w3 ⟨rfl, hr, hg⟩
  generalize h0c (ws, bad) 11 = y at *)
 rotate_left
 focus (
  have HXM := h_ (show e0l ([69, 79, 82] :: ws, bad) = h0c (ws, bad) 12 from rfl)
  go_wp2_with fail
  refine (j0f _ 12 HR2.out).mono ?_
  rintro e w3 ⟨rfl, hr, hg⟩
  generalize h0c (ws, bad) 12 = y at *)
 rotate_left
 focus (
  have HXM := h_ (show e0l ([83, 85, 66, 83] :: ws, bad) = h0c (ws, bad) 13 from rfl)
  go_wp2_with fail
  refine (j0f _ 13 HR2.out).mono ?_
  rintro e w3 ⟨rfl, hr, hg⟩
  generalize h0c (ws, bad) 13 = y at *)
 rotate_left
 focus (
  have HXM := h_ (show e0l ([67, 66, 90] :: ws, bad) = v0c (ws, bad) 15 from rfl)
  go_wp2_with fail
  refine (u0t _ 15 HR2.out).mono ?_
  rintro e w3 ⟨rfl, hr, hg⟩
  generalize v0c (ws, bad) 15 = y at *)
 rotate_left
 focus (
  have HXM := h_ (show e0l ([67, 66, 78, 90] :: ws, bad) = v0c (ws, bad) 16 from rfl)
  go_wp2_with fail
  refine (u0t _ 16 HR2.out).mono ?_
  rintro e w3 ⟨rfl, hr, hg⟩
  generalize v0c (ws, bad) 16 = y at *)
 rotate_left
 focus (
  have HXM := h_ (show e0l ([84, 76, 66, 73] :: ws, bad) = p0m (ws, bad) from rfl)
  go_wp2_with fail
  refine (w0w _ HR2.out).mono ?_
  rintro e w3 ⟨rfl, hr, hg⟩
  generalize p0m (ws, bad) = y at *)
 rotate_left
 all_goals (
  have HR3 := h_ hr
  have HG3 := h_ (a0a HG2.out hg)
  have HA3 := h_ (HA2.out.kept hg (by intro e; injection e; omega))
  have hz3 := HA3.out.lt
  clear hr hg HR2 HG2 HA2
  (try simp only [insV, b0o])
  obtain ⟨a0, a1, a2, a3, a4, a5⟩ := a0h HA3.out
  obtain ⟨af0, af1, af2, af3, af4, af5⟩ := a0g HA3.out
  go_wp2_with fail
  refine bodyPost_ret (results_cell_row rfl _ _ w.heap.size 91 #[.int .i64 y.1.op, .int .i64 y.1.d, .int .i64 y.1.n, .int .i64 y.1.m, .int .i64 y.1.imm, .int .i64 y.1.kind] (0, 0) _ rfl (b0k HA3.out ⟨y.1.op, y.1.d, y.1.n, y.1.m, y.1.imm, y.1.kind⟩) Tryz.underlying91 rfl (by kernel_rfl)) rfl ?_
  rw [HXM.out]
  exact ⟨rfl, HR3.out.other6 hGw hrA ⟨y.1.op, y.1.d, y.1.n, y.1.m, y.1.imm, y.1.kind⟩, a0x HG3.out (Nat.le_refl _) ⟨y.1.op, y.1.d, y.1.n, y.1.m, y.1.imm, y.1.kind⟩⟩)
theorem w0u {r G : Nat} {s : AS} (w : World) (h : ARd w r G s) (n0 : ¬ (a0q s).1 = [78, 79, 80]) (n1 : ¬ (a0q s).1 = [73, 83, 66]) (n2 : ¬ (a0q s).1 = [69, 82, 69, 84]) (n3 : ¬ (a0q s).1 = [76, 68, 82]) (n4 : ¬ (a0q s).1 = [83, 84, 82]) (n5 : ¬ (a0q s).1 = [76, 68, 65, 82]) (n6 : ¬ (a0q s).1 = [83, 84, 76, 82]) (n7 : ¬ (a0q s).1 = [77, 79, 86]) (n8 : ¬ (a0q s).1 = [77, 79, 86, 90]) (n9 : ¬ (a0q s).1 = [65, 68, 68]) (n10 : ¬ (a0q s).1 = [83, 85, 66]) (n11 : ¬ (a0q s).1 = [65, 78, 68]) (n12 : ¬ (a0q s).1 = [79, 82, 82]) (n13 : ¬ (a0q s).1 = [69, 79, 82]) (n14 : ¬ (a0q s).1 = [83, 85, 66, 83]) (n15 : ¬ (a0q s).1 = [67, 77, 80]) (n16 : ¬ (a0q s).1 = [66]) (n17 : ¬ (a0q s).1 = [66, 46, 69, 81]) (n18 : ¬ (a0q s).1 = [66, 46, 78, 69]) (n19 : ¬ (a0q s).1 = [67, 66, 90]) (n20 : ¬ (a0q s).1 = [67, 66, 78, 90]) (n21 : ¬ (a0q s).1 = [68, 77, 66]) (n22 : ¬ (a0q s).1 = [68, 83, 66]) (n23 : ¬ (a0q s).1 = [84, 76, 66, 73]) (n24 : ¬ (a0q s).1 = [77, 82, 83]) :
  Calls Tryz.prog 147 #[.pointer (some ⟨r, 0, none⟩)] w (g0m r G w insV ((Ins.none, badA (a0q s).2 true))) := by
 have hrl := h.lt
 have hGw := h.G_le
 have HA1 := h_ (a0u w 0 0 0 0 0 0)
 have HR1 := h_ (h.below (bl_ (Below.refl _ _) (.cells #[.int .i64 0, .int .i64 0, .int .i64 0, .int .i64 0, .int .i64 0, .int .i64 0] 91)))
 have HG1 := h_ (a0b (row := some r) (bl_ (Below.refl w.heap.size w) (.cells #[.int .i64 0, .int .i64 0, .int .i64 0, .int .i64 0, .int .i64 0, .int .i64 0] 91)))
 have hrA : r ≠ w.heap.size := by omega
 clear h
 have HNX := h_ (fun w1 (hh : ARd w1 r G s) => i0b w1 hh)
 generalize a0q s = y at *
 obtain ⟨x, s2⟩ := y
 simp only at n0 n1 n2 n3 n4 n5 n6 n7 n8 n9 n10 n11 n12 n13 n14 n15 n16 n17 n18 n19 n20 n21 n22 n23 n24
 have m0 : ((ba x).toList == ([78, 79, 80] : List UInt8)) = false := by rw [b0c]; exact beq_eq_false_iff_ne.2 n0
 have m1 : ((ba x).toList == ([73, 83, 66] : List UInt8)) = false := by rw [b0c]; exact beq_eq_false_iff_ne.2 n1
 have m2 : ((ba x).toList == ([69, 82, 69, 84] : List UInt8)) = false := by rw [b0c]; exact beq_eq_false_iff_ne.2 n2
 have m3 : ((ba x).toList == ([76, 68, 82] : List UInt8)) = false := by rw [b0c]; exact beq_eq_false_iff_ne.2 n3
 have m4 : ((ba x).toList == ([83, 84, 82] : List UInt8)) = false := by rw [b0c]; exact beq_eq_false_iff_ne.2 n4
 have m5 : ((ba x).toList == ([76, 68, 65, 82] : List UInt8)) = false := by rw [b0c]; exact beq_eq_false_iff_ne.2 n5
 have m6 : ((ba x).toList == ([83, 84, 76, 82] : List UInt8)) = false := by rw [b0c]; exact beq_eq_false_iff_ne.2 n6
 have m7 : ((ba x).toList == ([77, 79, 86] : List UInt8)) = false := by rw [b0c]; exact beq_eq_false_iff_ne.2 n7
 have m8 : ((ba x).toList == ([77, 79, 86, 90] : List UInt8)) = false := by rw [b0c]; exact beq_eq_false_iff_ne.2 n8
 have m9 : ((ba x).toList == ([65, 68, 68] : List UInt8)) = false := by rw [b0c]; exact beq_eq_false_iff_ne.2 n9
 have m10 : ((ba x).toList == ([83, 85, 66] : List UInt8)) = false := by rw [b0c]; exact beq_eq_false_iff_ne.2 n10
 have m11 : ((ba x).toList == ([65, 78, 68] : List UInt8)) = false := by rw [b0c]; exact beq_eq_false_iff_ne.2 n11
 have m12 : ((ba x).toList == ([79, 82, 82] : List UInt8)) = false := by rw [b0c]; exact beq_eq_false_iff_ne.2 n12
 have m13 : ((ba x).toList == ([69, 79, 82] : List UInt8)) = false := by rw [b0c]; exact beq_eq_false_iff_ne.2 n13
 have m14 : ((ba x).toList == ([83, 85, 66, 83] : List UInt8)) = false := by rw [b0c]; exact beq_eq_false_iff_ne.2 n14
 have m15 : ((ba x).toList == ([67, 77, 80] : List UInt8)) = false := by rw [b0c]; exact beq_eq_false_iff_ne.2 n15
 have m16 : ((ba x).toList == ([66] : List UInt8)) = false := by rw [b0c]; exact beq_eq_false_iff_ne.2 n16
 have m17 : ((ba x).toList == ([66, 46, 69, 81] : List UInt8)) = false := by rw [b0c]; exact beq_eq_false_iff_ne.2 n17
 have m18 : ((ba x).toList == ([66, 46, 78, 69] : List UInt8)) = false := by rw [b0c]; exact beq_eq_false_iff_ne.2 n18
 have m19 : ((ba x).toList == ([67, 66, 90] : List UInt8)) = false := by rw [b0c]; exact beq_eq_false_iff_ne.2 n19
 have m20 : ((ba x).toList == ([67, 66, 78, 90] : List UInt8)) = false := by rw [b0c]; exact beq_eq_false_iff_ne.2 n20
 have m21 : ((ba x).toList == ([68, 77, 66] : List UInt8)) = false := by rw [b0c]; exact beq_eq_false_iff_ne.2 n21
 have m22 : ((ba x).toList == ([68, 83, 66] : List UInt8)) = false := by rw [b0c]; exact beq_eq_false_iff_ne.2 n22
 have m23 : ((ba x).toList == ([84, 76, 66, 73] : List UInt8)) = false := by rw [b0c]; exact beq_eq_false_iff_ne.2 n23
 have m24 : ((ba x).toList == ([77, 82, 83] : List UInt8)) = false := by rw [b0c]; exact beq_eq_false_iff_ne.2 n24
 clear n0 n1 n2 n3 n4 n5 n6 n7 n8 n9 n10 n11 n12 n13 n14 n15 n16 n17 n18 n19 n20 n21 n22 n23 n24
 obtain ⟨ws, bad⟩ := s2
 go_enter Tryz.func147, Tryz.ntmps147
 have HC2 := h_ (HNX.out _ HR1.out)
 go_wp2_with fail
 refine (HC2.out).mono ?_
 rintro e w2 ⟨rfl, hr, hg⟩
 have HR2 := h_ hr
 have HG2 := h_ (a0a HG1.out hg)
 have HA2 := h_ (HA1.out.kept hg (by intro e; injection e; omega))
 have hz2 := HA2.out.lt
 clear hr hg HC2 HR1 HG1 HA1
 have hr9 := HR2.out
 have hrl9 := hr9.lt
 obtain ⟨p9, cc, hB, _⟩ := hr9
 have c0 := hB.cell 0
 have c1 := hB.cell 1
 have f0 := hB.free 0
 have f1 := hB.free 1
 simp only [gz_, gs_] at c0 c1
 clear hB
 obtain ⟨a0, a1, a2, a3, a4, a5⟩ := a0h HA2.out
 obtain ⟨af0, af1, af2, af3, af4, af5⟩ := a0g HA2.out
 have HR3 := h_ (HR2.out.bad true)
 have HG3 := h_ (a0a HG2.out (a0r _ r 1 (.bool (bad || true))))
 have HA3 := h_ (HA2.out.other (p := ⟨r, 1, none⟩) (by simp; omega) (.bool (bad || true)))
 simp only [Bool.or_true] at HR3 HG3 HA3
 go_wp2_with fail
 refine bodyPost_ret (results_cell_row rfl _ _ w.heap.size 91 #[.int .i64 0, .int .i64 0, .int .i64 0, .int .i64 0, .int .i64 0, .int .i64 0] (0, 0) _ rfl (b0k HA3.out ⟨0, 0, 0, 0, 0, 0⟩) Tryz.underlying91 rfl (by kernel_rfl)) rfl ?_
 exact ⟨rfl, HR3.out.other6 hGw hrA ⟨0, 0, 0, 0, 0, 0⟩, a0x HG3.out (Nat.le_refl _) ⟨0, 0, 0, 0, 0, 0⟩⟩
theorem b1k {r G : Nat} {s : AS} (w : World) (h : ARd w r G s) : Calls Tryz.prog 147 #[.pointer (some ⟨r, 0, none⟩)] w (g0m r G w insV (e0l s)) := by
 by_cases n0 : (a0q s).1 = [78, 79, 80]
 ·obtain ⟨ws, bad⟩ := s
  cases ws with
  | nil => cases n0
  | cons x ws =>
   obtain rfl : x = [78, 79, 80] := n0
   exact b1l w h
 by_cases n1 : (a0q s).1 = [73, 83, 66]
 ·obtain ⟨ws, bad⟩ := s
  cases ws with
  | nil => cases n1
  | cons x ws =>
   obtain rfl : x = [73, 83, 66] := n1
   exact b1n w h
 by_cases n2 : (a0q s).1 = [69, 82, 69, 84]
 ·obtain ⟨ws, bad⟩ := s
  cases ws with
  | nil => cases n2
  | cons x ws =>
   obtain rfl : x = [69, 82, 69, 84] := n2
   exact w0v w h
 by_cases n3 : (a0q s).1 = [76, 68, 82]
 ·obtain ⟨ws, bad⟩ := s
  cases ws with
  | nil => cases n3
  | cons x ws =>
   obtain rfl : x = [76, 68, 82] := n3
   exact c0h w _ _ rfl (by simp [ba]) h
 by_cases n4 : (a0q s).1 = [83, 84, 82]
 ·obtain ⟨ws, bad⟩ := s
  cases ws with
  | nil => cases n4
  | cons x ws =>
   obtain rfl : x = [83, 84, 82] := n4
   exact c0h w _ _ rfl (by simp [ba]) h
 by_cases n5 : (a0q s).1 = [76, 68, 65, 82]
 ·obtain ⟨ws, bad⟩ := s
  cases ws with
  | nil => cases n5
  | cons x ws =>
   obtain rfl : x = [76, 68, 65, 82] := n5
   exact c0h w _ _ rfl (by simp [ba]) h
 by_cases n6 : (a0q s).1 = [83, 84, 76, 82]
 ·obtain ⟨ws, bad⟩ := s
  cases ws with
  | nil => cases n6
  | cons x ws =>
   obtain rfl : x = [83, 84, 76, 82] := n6
   exact c0h w _ _ rfl (by simp [ba]) h
 by_cases n7 : (a0q s).1 = [77, 79, 86]
 ·obtain ⟨ws, bad⟩ := s
  cases ws with
  | nil => cases n7
  | cons x ws =>
   obtain rfl : x = [77, 79, 86] := n7
   exact c0h w _ _ rfl (by simp [ba]) h
 by_cases n8 : (a0q s).1 = [77, 79, 86, 90]
 ·obtain ⟨ws, bad⟩ := s
  cases ws with
  | nil => cases n8
  | cons x ws =>
   obtain rfl : x = [77, 79, 86, 90] := n8
   exact c0h w _ _ rfl (by simp [ba]) h
 by_cases n9 : (a0q s).1 = [65, 68, 68]
 ·obtain ⟨ws, bad⟩ := s
  cases ws with
  | nil => cases n9
  | cons x ws =>
   obtain rfl : x = [65, 68, 68] := n9
   exact c0h w _ _ rfl (by simp [ba]) h
 by_cases n10 : (a0q s).1 = [83, 85, 66]
 ·obtain ⟨ws, bad⟩ := s
  cases ws with
  | nil => cases n10
  | cons x ws =>
   obtain rfl : x = [83, 85, 66] := n10
   exact c0h w _ _ rfl (by simp [ba]) h
 by_cases n11 : (a0q s).1 = [65, 78, 68]
 ·obtain ⟨ws, bad⟩ := s
  cases ws with
  | nil => cases n11
  | cons x ws =>
   obtain rfl : x = [65, 78, 68] := n11
   exact c0h w _ _ rfl (by simp [ba]) h
 by_cases n12 : (a0q s).1 = [79, 82, 82]
 ·obtain ⟨ws, bad⟩ := s
  cases ws with
  | nil => cases n12
  | cons x ws =>
   obtain rfl : x = [79, 82, 82] := n12
   exact c0h w _ _ rfl (by simp [ba]) h
 by_cases n13 : (a0q s).1 = [69, 79, 82]
 ·obtain ⟨ws, bad⟩ := s
  cases ws with
  | nil => cases n13
  | cons x ws =>
   obtain rfl : x = [69, 79, 82] := n13
   exact c0h w _ _ rfl (by simp [ba]) h
 by_cases n14 : (a0q s).1 = [83, 85, 66, 83]
 ·obtain ⟨ws, bad⟩ := s
  cases ws with
  | nil => cases n14
  | cons x ws =>
   obtain rfl : x = [83, 85, 66, 83] := n14
   exact c0h w _ _ rfl (by simp [ba]) h
 by_cases n15 : (a0q s).1 = [67, 77, 80]
 ·obtain ⟨ws, bad⟩ := s
  cases ws with
  | nil => cases n15
  | cons x ws =>
   obtain rfl : x = [67, 77, 80] := n15
   exact b1q w h
 by_cases n16 : (a0q s).1 = [66]
 ·obtain ⟨ws, bad⟩ := s
  cases ws with
  | nil => cases n16
  | cons x ws =>
   obtain rfl : x = [66] := n16
   exact l1h w h
 by_cases n17 : (a0q s).1 = [66, 46, 69, 81]
 ·obtain ⟨ws, bad⟩ := s
  cases ws with
  | nil => cases n17
  | cons x ws =>
   obtain rfl : x = [66, 46, 69, 81] := n17
   exact b1s w h
 by_cases n18 : (a0q s).1 = [66, 46, 78, 69]
 ·obtain ⟨ws, bad⟩ := s
  cases ws with
  | nil => cases n18
  | cons x ws =>
   obtain rfl : x = [66, 46, 78, 69] := n18
   exact b1r w h
 by_cases n19 : (a0q s).1 = [67, 66, 90]
 ·obtain ⟨ws, bad⟩ := s
  cases ws with
  | nil => cases n19
  | cons x ws =>
   obtain rfl : x = [67, 66, 90] := n19
   exact c0h w _ _ rfl (by simp [ba]) h
 by_cases n20 : (a0q s).1 = [67, 66, 78, 90]
 ·obtain ⟨ws, bad⟩ := s
  cases ws with
  | nil => cases n20
  | cons x ws =>
   obtain rfl : x = [67, 66, 78, 90] := n20
   exact c0h w _ _ rfl (by simp [ba]) h
 by_cases n21 : (a0q s).1 = [68, 77, 66]
 ·obtain ⟨ws, bad⟩ := s
  cases ws with
  | nil => cases n21
  | cons x ws =>
   obtain rfl : x = [68, 77, 66] := n21
   exact b1p w h
 by_cases n22 : (a0q s).1 = [68, 83, 66]
 ·obtain ⟨ws, bad⟩ := s
  cases ws with
  | nil => cases n22
  | cons x ws =>
   obtain rfl : x = [68, 83, 66] := n22
   exact b1o w h
 by_cases n23 : (a0q s).1 = [84, 76, 66, 73]
 ·obtain ⟨ws, bad⟩ := s
  cases ws with
  | nil => cases n23
  | cons x ws =>
   obtain rfl : x = [84, 76, 66, 73] := n23
   exact c0h w _ _ rfl (by simp [ba]) h
 by_cases n24 : (a0q s).1 = [77, 82, 83]
 ·obtain ⟨ws, bad⟩ := s
  cases ws with
  | nil => cases n24
  | cons x ws =>
   obtain rfl : x = [77, 82, 83] := n24
   exact b1m w h
 have e : e0l s = (Ins.none, badA (a0q s).2 true) := by unfold e0l bodyA; simp only [n0, n1, n2, n3, n4, n5, n6, n7, n8, n9, n10, n11, n12, n13, n14, n15, n16, n17, n18, n19, n20, n21, n22, n23, n24, if_false]
 rw [e]
 exact w0u w h n0 n1 n2 n3 n4 n5 n6 n7 n8 n9 n10 n11 n12 n13 n14 n15 n16 n17 n18 n19 n20 n21 n22 n23 n24
end
section
open Go.RowKit
theorem j1w (c : UInt8) (l : List UInt8) (ws : List (List UInt8)) (n : Nat) (h : ∀ q ∈ ws, q.length ≤ n) : ∀ q ∈ t0x c l ws, q.length ≤ n + 1 := by
 intro q hq
 unfold t0x at hq
 split at hq
 ·split at hq
  ·rcases List.mem_cons.1 hq with rfl | hq
   ·have := h _ (List.mem_cons_self); simp; omega
   ·have := h q (List.mem_cons_of_mem _ hq); omega
  ·rcases List.mem_cons.1 hq with rfl | hq
   ·simp
   ·have := h q hq; omega
 ·rcases List.mem_cons.1 hq with rfl | hq
  ·simp
  ·have := h q hq; omega
theorem s0n : ∀ l : List UInt8, ∀ q ∈ b0a l, q.length ≤ l.length
 | [], q, hq => by simp [b0a] at hq
 | c :: l, q, hq => by
  have ih := s0n l
  unfold b0a at hq
  split at hq
  ·have := ih q hq; simp; omega
  ·split at hq
   ·rcases List.mem_cons.1 hq with rfl | hq
    ·simp
    ·have := ih q hq; simp; omega
   ·have := j1w c l (b0a l) l.length ih q hq; simpa using this
theorem o1n {w : World} {base n c : Nat} {p : Option Addr} {l : List UInt8} (h : w.ownsRow base 9 1 (.slice p n c) (b0a l).length ((b0a l).map strV)) (hl : l.length ≤ 1100000) :
  ARd (w.alloc (.cells #[.slice p n c, .bool false] 192)) w.heap.size w.heap.size (b0a l, false) := by
 obtain ⟨p', c', hv, hR, hlc⟩ := Rds.of_own h
 cases hv
 have hcm : c ≤ maxLen := by
  obtain ⟨_, ⟨h1, _⟩ | ⟨g, cap, cur, h1, h2, h3, h4, h5, _⟩⟩ := h
  ·simp only [Value.slice.injEq] at h1; rw [h1.2.2]; unfold maxLen; omega
  ·simp only [Value.slice.injEq] at h1; rw [h1.2.2]; exact h5
 have hpl : ∀ a, p = some a → a.block < w.heap.size := by
  intro a ha
  subst ha
  obtain ⟨_, ⟨h1, _⟩ | ⟨g, cap, cur, h1, h2, h3, h4, h5, _⟩⟩ := h
  ·simp only [Value.slice.injEq] at h1; cases h1.1
  ·simp only [Value.slice.injEq] at h1; obtain ⟨h6, _⟩ := h1; injection h6 with h6; subst h6; exact (Array.getElem?_eq_some_iff.1 h3).1
 refine ⟨p, c, Blk.new w _ [.slice p (b0a l).length c, .bool false], hR.below (bl_ (Below.refl _ _) _), hlc, hcm, fun a ha => by have := hpl a ha; omega, fun q hq => ?_, hpl, by simp⟩
 have := s0n l q hq
 omega
theorem bel6 {w w' : World} {B g : Nat} (h : Below B w w') (hg : B ≤ g) (x : Ins) : Below B w (iset w' g x) :=
 (((((h.setCell hg _).setCell hg _).setCell hg _).setCell hg _).setCell hg _).setCell hg _
theorem z0v {l : List UInt8} {x : Ins} {s : AS} (h : e0l (b0a l, false) = (x, s)) (h1 : s.2 = false) (h2 : s.1 = []) (h3 : b0e x.op x.d x.n x.m x.imm x.kind) : f0o l = (x, 0) := by
 unfold f0o; rw [h]; simp only; rw [if_pos ⟨h1, h2, h3⟩]
theorem e1j {l : List UInt8} {x : Ins} {s : AS} (h : e0l (b0a l, false) = (x, s)) (h1 : ¬ (s.2 = false ∧ s.1 = [] ∧ b0e x.op x.d x.n x.m x.imm x.kind)) : f0o l = (Ins.none, 40) := by
 unfold f0o; rw [h]; simp only; rw [if_neg h1]
theorem n0d (s : ByteArray) (w : World) (hs : s.size ≤ 1100000) :
  Calls Tryz.prog 123 #[.string s] w fun e w' => e = .returned (.tuple #[insV (f0o s.data.toList).1, .int .i64 (f0o s.data.toList).2]) ∧ Below w.heap.size w w' := by
 have hsl : s.data.toList.length ≤ 1100000 := by rw [← Lib.size_eq]; exact hs
 have HA := h_ (a0u w 0 0 0 0 0 0)
 have HB := h_ (bl_ (Below.refl w.heap.size w) (.cells #[.int .i64 0, .int .i64 0, .int .i64 0, .int .i64 0, .int .i64 0, .int .i64 0] 91))
 have HW := h_ (b1y s (w.alloc (.cells #[.int .i64 0, .int .i64 0, .int .i64 0, .int .i64 0, .int .i64 0, .int .i64 0] 91)) hs)
 have HY := h_ (fun x s1 (h : e0l (b0a s.data.toList, false) = (x, s1)) h1 h2 h3 => z0v h h1 h2 h3)
 have HN := h_ (fun x s1 (h : e0l (b0a s.data.toList, false) = (x, s1)) h1 => e1j h h1)
 have HAN := h_ (fun w1 base n c p (h : World.ownsRow w1 base 9 1 (.slice p n c) (b0a s.data.toList).length ((b0a s.data.toList).map strV)) => o1n h hsl)
 have HI := h_ (fun w1 r G (h : ARd w1 r G (b0a s.data.toList, false)) => b1k w1 h)
 generalize hq : e0l (b0a s.data.toList, false) = q at *
 obtain ⟨⟨o, d, n, m, i, k⟩, ws, bad⟩ := q
 clear hq hsl
 generalize f0o s.data.toList = R at *
 go_enter Tryz.func123, Tryz.ntmps123
 go_wp2_with fail
 refine (HW.out).mono ?_
 rintro e w2 ⟨v, rfl, ho, hb⟩
 obtain ⟨p, c, rfl, _⟩ := a0z ho
 have HR := h_ (HAN.out _ _ _ _ _ ho)
 have HB2 := h_ (bl_ (bt_ HB.out hb) (.cells #[.slice p (b0a s.data.toList).length c, .bool false] 192))
 have HA2 := h_ ((HA.out.below hb).alloc (.cells #[.slice p (b0a s.data.toList).length c, .bool false] 192))
 have hA2 := (HA.out.below hb).lt
 have HC := h_ (HI.out _ _ _ HR.out)
 clear ho hb HW HAN HI HB HA
 go_wp2_with fail
 refine (HC.out).mono ?_
 rintro e w3 ⟨rfl, hr, hg⟩
 simp only at hr
 have hw23 : w2.heap.size < w3.heap.size := by have := hg.size; simp at this; omega
 have HB3 := h_ (HB2.out.grown hg (by simp; omega) (fun k hk => by cases hk; omega))
 have HA3 := h_ (HA2.out.kept hg (by intro e; injection e; omega))
 have HR3 := h_ hr
 have hrl := hr.lt
 obtain ⟨p, cc, hB, _⟩ := hr
 have c0 := hB.cell 0
 have c1 := hB.cell 1
 have f0 := hB.free 0
 have f1 := hB.free 1
 simp only [gz_, gs_] at c0 c1
 clear hB
 obtain ⟨a0, a1, a2, a3, a4, a5⟩ := a0h HA3.out
 obtain ⟨af0, af1, af2, af3, af4, af5⟩ := a0g HA3.out
 have hA3 := HA3.out.lt
 clear hg HC HB2 HA2 HR
 (try simp only [insV, b0o])
 (try simp only at c0 c1)
 have HRT := h_ (fun w1 => m0u o d n m i k w1)
 cases bad with
 | true =>
  have HP := h_ (HN.out _ _ rfl (by simp))
  go_wp2_with fail
  refine bodyPost_ret (c0c rfl _ _ w.heap.size 91 #[.int .i64 0, .int .i64 0, .int .i64 0, .int .i64 0, .int .i64 0, .int .i64 0] (0, 0) _ rfl ((b0k HA3.out ⟨0, 0, 0, 0, 0, 0⟩).alloc (.cells #[.int .i64 o, .int .i64 d, .int .i64 n, .int .i64 m, .int .i64 i, .int .i64 k] 91)) Tryz.underlying91 rfl (by kernel_rfl)) rfl ?_
  exact ⟨by rw [HP.out]; rfl, bl_ (bel6 HB3.out (Nat.le_refl _) ⟨0, 0, 0, 0, 0, 0⟩) _⟩
 | false =>
  cases ws with
  | cons x ws =>
   have HP := h_ (HN.out _ _ rfl (by simp))
   have hne : (0 : Int) < (ws.length : Int) + 1 := by omega
   simp only [List.length_cons] at c0
   go_wp2_with fail
   refine bodyPost_ret (c0c rfl _ _ w.heap.size 91 #[.int .i64 0, .int .i64 0, .int .i64 0, .int .i64 0, .int .i64 0, .int .i64 0] (0, 0) _ rfl ((b0k HA3.out ⟨0, 0, 0, 0, 0, 0⟩).alloc (.cells #[.int .i64 o, .int .i64 d, .int .i64 n, .int .i64 m, .int .i64 i, .int .i64 k] 91)) Tryz.underlying91 rfl (by kernel_rfl)) rfl ?_
   exact ⟨by rw [HP.out]; rfl, bl_ (bel6 HB3.out (Nat.le_refl _) ⟨0, 0, 0, 0, 0, 0⟩) _⟩
  | nil =>
   simp only [List.length_nil] at c0
   by_cases hr : b0e o d n m i k
   ·have HP := h_ (HY.out _ _ rfl rfl rfl hr)
    rw [show g0s o d n m i k = 0 from if_pos hr] at HRT
    clear hr
    go_wp2_with fail
    refine (HRT.out _).mono ?_
    rintro e w4 ⟨rfl, hb⟩
    have HA4 := h_ ((HA3.out.alloc (.cells #[.int .i64 o, .int .i64 d, .int .i64 n, .int .i64 m, .int .i64 i, .int .i64 k] 91)).below hb)
    have HO4 := h_ ((a0u w3 o d n m i k).below hb)
    have HB4 := h_ (bt_ (bl_ HB3.out (.cells #[.int .i64 o, .int .i64 d, .int .i64 n, .int .i64 m, .int .i64 i, .int .i64 k] 91)) hb)
    have hA4 := HA4.out.lt
    have hO4 := HO4.out.lt
    clear a0 a1 a2 a3 a4 a5 af0 af1 af2 af3 af4 af5 hb
    obtain ⟨a0, a1, a2, a3, a4, a5⟩ := a0h HA4.out
    obtain ⟨af0, af1, af2, af3, af4, af5⟩ := a0g HA4.out
    obtain ⟨b0, b1, b2, b3, b4, b5⟩ := a0h HO4.out
    go_wp2_with fail
    refine bodyPost_ret (c0c rfl _ _ w.heap.size 91 #[.int .i64 o, .int .i64 d, .int .i64 n, .int .i64 m, .int .i64 i, .int .i64 k] (0, 0) _ rfl (b0k HA4.out ⟨o, d, n, m, i, k⟩) Tryz.underlying91 rfl (by kernel_rfl)) rfl ?_
    exact ⟨by rw [HP.out]; rfl, bel6 HB4.out (Nat.le_refl _) ⟨o, d, n, m, i, k⟩⟩
   ·have HP := h_ (HN.out _ _ rfl (by simp [hr]))
    rw [show g0s o d n m i k = 30 from if_neg hr] at HRT
    clear hr
    go_wp2_with fail
    refine (HRT.out _).mono ?_
    rintro e w4 ⟨rfl, hb⟩
    have HA4 := h_ ((HA3.out.alloc (.cells #[.int .i64 o, .int .i64 d, .int .i64 n, .int .i64 m, .int .i64 i, .int .i64 k] 91)).below hb)
    have HB4 := h_ (bt_ (bl_ HB3.out (.cells #[.int .i64 o, .int .i64 d, .int .i64 n, .int .i64 m, .int .i64 i, .int .i64 k] 91)) hb)
    have hA4 := HA4.out.lt
    clear a0 a1 a2 a3 a4 a5 af0 af1 af2 af3 af4 af5 hb
    obtain ⟨a0, a1, a2, a3, a4, a5⟩ := a0h HA4.out
    obtain ⟨af0, af1, af2, af3, af4, af5⟩ := a0g HA4.out
    go_wp2_with fail
    refine bodyPost_ret (c0c rfl _ _ w.heap.size 91 #[.int .i64 0, .int .i64 0, .int .i64 0, .int .i64 0, .int .i64 0, .int .i64 0] (0, 0) _ rfl (b0k HA4.out ⟨0, 0, 0, 0, 0, 0⟩) Tryz.underlying91 rfl (by kernel_rfl)) rfl ?_
    exact ⟨by rw [HP.out]; rfl, bel6 HB4.out (Nat.le_refl _) ⟨0, 0, 0, 0, 0, 0⟩⟩
end
end Go.Proofs.YtmnojnopejhebaaGreat
