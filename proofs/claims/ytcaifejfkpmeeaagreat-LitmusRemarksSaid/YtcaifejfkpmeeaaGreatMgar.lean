/- An instruction by its first word. -/
import Derived.Test.YtcaifejfkpmeeaaGreatMgaq
namespace Go.Proofs.YtcaifejfkpmeeaaGreat
open Go.RowKit
set_option linter.unusedVariables false
set_option linter.unusedSimpArgs false

theorem anext_cons {r G : Nat} {x : List UInt8} {ws : List (List UInt8)} {bad : Bool} (S : ByteArray) (hS : ba x = S) (w : World) (h : ARd w r G (x :: ws, bad)) :
    Calls Tryz.prog 61 #[.pointer (some ⟨r, 0, none⟩)] w fun e w' => e = .returned (.string S) ∧ ARd w' r G (ws, bad) ∧ w.grownBy w' (some r) := by
  refine (anext_any w h).mono ?_
  rintro e w' ⟨rfl, h1, h2⟩
  exact ⟨by rw [← hS]; rfl, h1, h2⟩
set_option maxRecDepth 100000 in
set_option maxHeartbeats 1600000 in
theorem ainstr_NOP {r G : Nat} {ws : List (List UInt8)} {bad : Bool} (w : World) (h : ARd w r G ([78, 79, 80] :: ws, bad)) :
    Calls Tryz.prog 53 #[.pointer (some ⟨r, 0, none⟩)] w (SomeR r G w insV ((⟨1, 0, 0, 0, 0, 0⟩, (ws, bad)))) := by
  have hrl := h.lt
  have hGw := h.G_le
  have HA1 := Lib.hid (own_instr w 0 0 0 0 0 0)
  have HR1 := Lib.hid (h.below (below_alloc (Below.refl _ _) (.cells #[.int .i64 0, .int .i64 0, .int .i64 0, .int .i64 0, .int .i64 0, .int .i64 0] 82)))
  have HG1 := Lib.hid (grown_below (row := some r) (below_alloc (Below.refl w.heap.size w) (.cells #[.int .i64 0, .int .i64 0, .int .i64 0, .int .i64 0, .int .i64 0, .int .i64 0] 82)))
  have hrA : r ≠ w.heap.size := by omega
  clear h
  go_enter Tryz.func53, Tryz.ntmps53
  have HC2 := Lib.hid (anext_cons { data := #[78, 79, 80] } rfl _ HR1.out)
  go_wp2_with fail
  refine (HC2.out).mono ?_
  rintro e w2 ⟨rfl, hr, hg⟩
  have HR2 := Lib.hid hr
  have HG2 := Lib.hid (grown_thenR HG1.out hg)
  have HA2 := Lib.hid (HA1.out.kept hg (by intro e; injection e; omega))
  have hz2 := HA2.out.lt
  clear hr hg HC2 HR1 HG1 HA1
  obtain ⟨a0, a1, a2, a3, a4, a5⟩ := blk_instr HA2.out
  obtain ⟨af0, af1, af2, af3, af4, af5⟩ := free_instr HA2.out
  go_wp2_with fail
  refine bodyPost_ret (results_cell_row rfl _ _ w.heap.size 82 #[.int .i64 1, .int .i64 0, .int .i64 0, .int .i64 0, .int .i64 0, .int .i64 0] (0, 0) _ rfl (ins_set6 HA2.out ⟨1, 0, 0, 0, 0, 0⟩) Tryz.underlying82 rfl (by kernel_rfl)) rfl ?_
  exact ⟨rfl, HR2.out.other6 hGw hrA ⟨1, 0, 0, 0, 0, 0⟩, ins_grown6 HG2.out (Nat.le_refl _) ⟨1, 0, 0, 0, 0, 0⟩⟩
set_option maxRecDepth 100000 in
set_option maxHeartbeats 1600000 in
theorem ainstr_ISB {r G : Nat} {ws : List (List UInt8)} {bad : Bool} (w : World) (h : ARd w r G ([73, 83, 66] :: ws, bad)) :
    Calls Tryz.prog 53 #[.pointer (some ⟨r, 0, none⟩)] w (SomeR r G w insV ((⟨20, 0, 0, 0, 0, 0⟩, (ws, bad)))) := by
  have hrl := h.lt
  have hGw := h.G_le
  have HA1 := Lib.hid (own_instr w 0 0 0 0 0 0)
  have HR1 := Lib.hid (h.below (below_alloc (Below.refl _ _) (.cells #[.int .i64 0, .int .i64 0, .int .i64 0, .int .i64 0, .int .i64 0, .int .i64 0] 82)))
  have HG1 := Lib.hid (grown_below (row := some r) (below_alloc (Below.refl w.heap.size w) (.cells #[.int .i64 0, .int .i64 0, .int .i64 0, .int .i64 0, .int .i64 0, .int .i64 0] 82)))
  have hrA : r ≠ w.heap.size := by omega
  clear h
  go_enter Tryz.func53, Tryz.ntmps53
  have HC2 := Lib.hid (anext_cons { data := #[73, 83, 66] } rfl _ HR1.out)
  go_wp2_with fail
  refine (HC2.out).mono ?_
  rintro e w2 ⟨rfl, hr, hg⟩
  have HR2 := Lib.hid hr
  have HG2 := Lib.hid (grown_thenR HG1.out hg)
  have HA2 := Lib.hid (HA1.out.kept hg (by intro e; injection e; omega))
  have hz2 := HA2.out.lt
  clear hr hg HC2 HR1 HG1 HA1
  obtain ⟨a0, a1, a2, a3, a4, a5⟩ := blk_instr HA2.out
  obtain ⟨af0, af1, af2, af3, af4, af5⟩ := free_instr HA2.out
  go_wp2_with fail
  refine bodyPost_ret (results_cell_row rfl _ _ w.heap.size 82 #[.int .i64 20, .int .i64 0, .int .i64 0, .int .i64 0, .int .i64 0, .int .i64 0] (0, 0) _ rfl (ins_set6 HA2.out ⟨20, 0, 0, 0, 0, 0⟩) Tryz.underlying82 rfl (by kernel_rfl)) rfl ?_
  exact ⟨rfl, HR2.out.other6 hGw hrA ⟨20, 0, 0, 0, 0, 0⟩, ins_grown6 HG2.out (Nat.le_refl _) ⟨20, 0, 0, 0, 0, 0⟩⟩
set_option maxRecDepth 100000 in
set_option maxHeartbeats 1600000 in
theorem ainstr_ERET {r G : Nat} {ws : List (List UInt8)} {bad : Bool} (w : World) (h : ARd w r G ([69, 82, 69, 84] :: ws, bad)) :
    Calls Tryz.prog 53 #[.pointer (some ⟨r, 0, none⟩)] w (SomeR r G w insV ((⟨22, 0, 0, 0, 0, 0⟩, (ws, bad)))) := by
  have hrl := h.lt
  have hGw := h.G_le
  have HA1 := Lib.hid (own_instr w 0 0 0 0 0 0)
  have HR1 := Lib.hid (h.below (below_alloc (Below.refl _ _) (.cells #[.int .i64 0, .int .i64 0, .int .i64 0, .int .i64 0, .int .i64 0, .int .i64 0] 82)))
  have HG1 := Lib.hid (grown_below (row := some r) (below_alloc (Below.refl w.heap.size w) (.cells #[.int .i64 0, .int .i64 0, .int .i64 0, .int .i64 0, .int .i64 0, .int .i64 0] 82)))
  have hrA : r ≠ w.heap.size := by omega
  clear h
  go_enter Tryz.func53, Tryz.ntmps53
  have HC2 := Lib.hid (anext_cons { data := #[69, 82, 69, 84] } rfl _ HR1.out)
  go_wp2_with fail
  refine (HC2.out).mono ?_
  rintro e w2 ⟨rfl, hr, hg⟩
  have HR2 := Lib.hid hr
  have HG2 := Lib.hid (grown_thenR HG1.out hg)
  have HA2 := Lib.hid (HA1.out.kept hg (by intro e; injection e; omega))
  have hz2 := HA2.out.lt
  clear hr hg HC2 HR1 HG1 HA1
  obtain ⟨a0, a1, a2, a3, a4, a5⟩ := blk_instr HA2.out
  obtain ⟨af0, af1, af2, af3, af4, af5⟩ := free_instr HA2.out
  go_wp2_with fail
  refine bodyPost_ret (results_cell_row rfl _ _ w.heap.size 82 #[.int .i64 22, .int .i64 0, .int .i64 0, .int .i64 0, .int .i64 0, .int .i64 0] (0, 0) _ rfl (ins_set6 HA2.out ⟨22, 0, 0, 0, 0, 0⟩) Tryz.underlying82 rfl (by kernel_rfl)) rfl ?_
  exact ⟨rfl, HR2.out.other6 hGw hrA ⟨22, 0, 0, 0, 0, 0⟩, ins_grown6 HG2.out (Nat.le_refl _) ⟨22, 0, 0, 0, 0, 0⟩⟩
set_option maxRecDepth 100000 in
set_option maxHeartbeats 1600000 in
theorem ainstr_LDR {r G : Nat} {ws : List (List UInt8)} {bad : Bool} (w : World) (h : ARd w r G ([76, 68, 82] :: ws, bad)) :
    Calls Tryz.prog 53 #[.pointer (some ⟨r, 0, none⟩)] w (SomeR r G w insV (memoryA (ws, bad) 2)) := by
  have hrl := h.lt
  have hGw := h.G_le
  have HA1 := Lib.hid (own_instr w 0 0 0 0 0 0)
  have HR1 := Lib.hid (h.below (below_alloc (Below.refl _ _) (.cells #[.int .i64 0, .int .i64 0, .int .i64 0, .int .i64 0, .int .i64 0, .int .i64 0] 82)))
  have HG1 := Lib.hid (grown_below (row := some r) (below_alloc (Below.refl w.heap.size w) (.cells #[.int .i64 0, .int .i64 0, .int .i64 0, .int .i64 0, .int .i64 0, .int .i64 0] 82)))
  have hrA : r ≠ w.heap.size := by omega
  clear h
  go_enter Tryz.func53, Tryz.ntmps53
  have HC2 := Lib.hid (anext_cons { data := #[76, 68, 82] } rfl _ HR1.out)
  go_wp2_with fail
  refine (HC2.out).mono ?_
  rintro e w2 ⟨rfl, hr, hg⟩
  have HR2 := Lib.hid hr
  have HG2 := Lib.hid (grown_thenR HG1.out hg)
  have HA2 := Lib.hid (HA1.out.kept hg (by intro e; injection e; omega))
  have hz2 := HA2.out.lt
  clear hr hg HC2 HR1 HG1 HA1
  have HC3 := Lib.hid (amemory_any _ 2 HR2.out)
  go_wp2_with fail
  refine (HC3.out).mono ?_
  rintro e w3 ⟨rfl, hr, hg⟩
  have HR3 := Lib.hid hr
  have HG3 := Lib.hid (grown_thenR HG2.out hg)
  have HA3 := Lib.hid (HA2.out.kept hg (by intro e; injection e; omega))
  have hz3 := HA3.out.lt
  clear hr hg HC3 HR2 HG2 HA2
  (try simp only [insV, instrW])
  obtain ⟨a0, a1, a2, a3, a4, a5⟩ := blk_instr HA3.out
  obtain ⟨af0, af1, af2, af3, af4, af5⟩ := free_instr HA3.out
  go_wp2_with fail
  refine bodyPost_ret (results_cell_row rfl _ _ w.heap.size 82 #[.int .i64 (memoryA (ws, bad) 2).1.op, .int .i64 (memoryA (ws, bad) 2).1.d, .int .i64 (memoryA (ws, bad) 2).1.n, .int .i64 (memoryA (ws, bad) 2).1.m, .int .i64 (memoryA (ws, bad) 2).1.imm, .int .i64 (memoryA (ws, bad) 2).1.kind] (0, 0) _ rfl (ins_set6 HA3.out ⟨(memoryA (ws, bad) 2).1.op, (memoryA (ws, bad) 2).1.d, (memoryA (ws, bad) 2).1.n, (memoryA (ws, bad) 2).1.m, (memoryA (ws, bad) 2).1.imm, (memoryA (ws, bad) 2).1.kind⟩) Tryz.underlying82 rfl (by kernel_rfl)) rfl ?_
  exact ⟨rfl, HR3.out.other6 hGw hrA ⟨(memoryA (ws, bad) 2).1.op, (memoryA (ws, bad) 2).1.d, (memoryA (ws, bad) 2).1.n, (memoryA (ws, bad) 2).1.m, (memoryA (ws, bad) 2).1.imm, (memoryA (ws, bad) 2).1.kind⟩, ins_grown6 HG3.out (Nat.le_refl _) ⟨(memoryA (ws, bad) 2).1.op, (memoryA (ws, bad) 2).1.d, (memoryA (ws, bad) 2).1.n, (memoryA (ws, bad) 2).1.m, (memoryA (ws, bad) 2).1.imm, (memoryA (ws, bad) 2).1.kind⟩⟩
set_option maxRecDepth 100000 in
set_option maxHeartbeats 1600000 in
theorem ainstr_STR {r G : Nat} {ws : List (List UInt8)} {bad : Bool} (w : World) (h : ARd w r G ([83, 84, 82] :: ws, bad)) :
    Calls Tryz.prog 53 #[.pointer (some ⟨r, 0, none⟩)] w (SomeR r G w insV (memoryA (ws, bad) 3)) := by
  have hrl := h.lt
  have hGw := h.G_le
  have HA1 := Lib.hid (own_instr w 0 0 0 0 0 0)
  have HR1 := Lib.hid (h.below (below_alloc (Below.refl _ _) (.cells #[.int .i64 0, .int .i64 0, .int .i64 0, .int .i64 0, .int .i64 0, .int .i64 0] 82)))
  have HG1 := Lib.hid (grown_below (row := some r) (below_alloc (Below.refl w.heap.size w) (.cells #[.int .i64 0, .int .i64 0, .int .i64 0, .int .i64 0, .int .i64 0, .int .i64 0] 82)))
  have hrA : r ≠ w.heap.size := by omega
  clear h
  go_enter Tryz.func53, Tryz.ntmps53
  have HC2 := Lib.hid (anext_cons { data := #[83, 84, 82] } rfl _ HR1.out)
  go_wp2_with fail
  refine (HC2.out).mono ?_
  rintro e w2 ⟨rfl, hr, hg⟩
  have HR2 := Lib.hid hr
  have HG2 := Lib.hid (grown_thenR HG1.out hg)
  have HA2 := Lib.hid (HA1.out.kept hg (by intro e; injection e; omega))
  have hz2 := HA2.out.lt
  clear hr hg HC2 HR1 HG1 HA1
  have HC3 := Lib.hid (amemory_any _ 3 HR2.out)
  go_wp2_with fail
  refine (HC3.out).mono ?_
  rintro e w3 ⟨rfl, hr, hg⟩
  have HR3 := Lib.hid hr
  have HG3 := Lib.hid (grown_thenR HG2.out hg)
  have HA3 := Lib.hid (HA2.out.kept hg (by intro e; injection e; omega))
  have hz3 := HA3.out.lt
  clear hr hg HC3 HR2 HG2 HA2
  (try simp only [insV, instrW])
  obtain ⟨a0, a1, a2, a3, a4, a5⟩ := blk_instr HA3.out
  obtain ⟨af0, af1, af2, af3, af4, af5⟩ := free_instr HA3.out
  go_wp2_with fail
  refine bodyPost_ret (results_cell_row rfl _ _ w.heap.size 82 #[.int .i64 (memoryA (ws, bad) 3).1.op, .int .i64 (memoryA (ws, bad) 3).1.d, .int .i64 (memoryA (ws, bad) 3).1.n, .int .i64 (memoryA (ws, bad) 3).1.m, .int .i64 (memoryA (ws, bad) 3).1.imm, .int .i64 (memoryA (ws, bad) 3).1.kind] (0, 0) _ rfl (ins_set6 HA3.out ⟨(memoryA (ws, bad) 3).1.op, (memoryA (ws, bad) 3).1.d, (memoryA (ws, bad) 3).1.n, (memoryA (ws, bad) 3).1.m, (memoryA (ws, bad) 3).1.imm, (memoryA (ws, bad) 3).1.kind⟩) Tryz.underlying82 rfl (by kernel_rfl)) rfl ?_
  exact ⟨rfl, HR3.out.other6 hGw hrA ⟨(memoryA (ws, bad) 3).1.op, (memoryA (ws, bad) 3).1.d, (memoryA (ws, bad) 3).1.n, (memoryA (ws, bad) 3).1.m, (memoryA (ws, bad) 3).1.imm, (memoryA (ws, bad) 3).1.kind⟩, ins_grown6 HG3.out (Nat.le_refl _) ⟨(memoryA (ws, bad) 3).1.op, (memoryA (ws, bad) 3).1.d, (memoryA (ws, bad) 3).1.n, (memoryA (ws, bad) 3).1.m, (memoryA (ws, bad) 3).1.imm, (memoryA (ws, bad) 3).1.kind⟩⟩
set_option maxRecDepth 100000 in
set_option maxHeartbeats 1600000 in
theorem ainstr_LDAR {r G : Nat} {ws : List (List UInt8)} {bad : Bool} (w : World) (h : ARd w r G ([76, 68, 65, 82] :: ws, bad)) :
    Calls Tryz.prog 53 #[.pointer (some ⟨r, 0, none⟩)] w (SomeR r G w insV (memoryA (ws, bad) 4)) := by
  have hrl := h.lt
  have hGw := h.G_le
  have HA1 := Lib.hid (own_instr w 0 0 0 0 0 0)
  have HR1 := Lib.hid (h.below (below_alloc (Below.refl _ _) (.cells #[.int .i64 0, .int .i64 0, .int .i64 0, .int .i64 0, .int .i64 0, .int .i64 0] 82)))
  have HG1 := Lib.hid (grown_below (row := some r) (below_alloc (Below.refl w.heap.size w) (.cells #[.int .i64 0, .int .i64 0, .int .i64 0, .int .i64 0, .int .i64 0, .int .i64 0] 82)))
  have hrA : r ≠ w.heap.size := by omega
  clear h
  go_enter Tryz.func53, Tryz.ntmps53
  have HC2 := Lib.hid (anext_cons { data := #[76, 68, 65, 82] } rfl _ HR1.out)
  go_wp2_with fail
  refine (HC2.out).mono ?_
  rintro e w2 ⟨rfl, hr, hg⟩
  have HR2 := Lib.hid hr
  have HG2 := Lib.hid (grown_thenR HG1.out hg)
  have HA2 := Lib.hid (HA1.out.kept hg (by intro e; injection e; omega))
  have hz2 := HA2.out.lt
  clear hr hg HC2 HR1 HG1 HA1
  have HC3 := Lib.hid (amemory_any _ 4 HR2.out)
  go_wp2_with fail
  refine (HC3.out).mono ?_
  rintro e w3 ⟨rfl, hr, hg⟩
  have HR3 := Lib.hid hr
  have HG3 := Lib.hid (grown_thenR HG2.out hg)
  have HA3 := Lib.hid (HA2.out.kept hg (by intro e; injection e; omega))
  have hz3 := HA3.out.lt
  clear hr hg HC3 HR2 HG2 HA2
  (try simp only [insV, instrW])
  obtain ⟨a0, a1, a2, a3, a4, a5⟩ := blk_instr HA3.out
  obtain ⟨af0, af1, af2, af3, af4, af5⟩ := free_instr HA3.out
  go_wp2_with fail
  refine bodyPost_ret (results_cell_row rfl _ _ w.heap.size 82 #[.int .i64 (memoryA (ws, bad) 4).1.op, .int .i64 (memoryA (ws, bad) 4).1.d, .int .i64 (memoryA (ws, bad) 4).1.n, .int .i64 (memoryA (ws, bad) 4).1.m, .int .i64 (memoryA (ws, bad) 4).1.imm, .int .i64 (memoryA (ws, bad) 4).1.kind] (0, 0) _ rfl (ins_set6 HA3.out ⟨(memoryA (ws, bad) 4).1.op, (memoryA (ws, bad) 4).1.d, (memoryA (ws, bad) 4).1.n, (memoryA (ws, bad) 4).1.m, (memoryA (ws, bad) 4).1.imm, (memoryA (ws, bad) 4).1.kind⟩) Tryz.underlying82 rfl (by kernel_rfl)) rfl ?_
  exact ⟨rfl, HR3.out.other6 hGw hrA ⟨(memoryA (ws, bad) 4).1.op, (memoryA (ws, bad) 4).1.d, (memoryA (ws, bad) 4).1.n, (memoryA (ws, bad) 4).1.m, (memoryA (ws, bad) 4).1.imm, (memoryA (ws, bad) 4).1.kind⟩, ins_grown6 HG3.out (Nat.le_refl _) ⟨(memoryA (ws, bad) 4).1.op, (memoryA (ws, bad) 4).1.d, (memoryA (ws, bad) 4).1.n, (memoryA (ws, bad) 4).1.m, (memoryA (ws, bad) 4).1.imm, (memoryA (ws, bad) 4).1.kind⟩⟩
set_option maxRecDepth 100000 in
set_option maxHeartbeats 1600000 in
theorem ainstr_STLR {r G : Nat} {ws : List (List UInt8)} {bad : Bool} (w : World) (h : ARd w r G ([83, 84, 76, 82] :: ws, bad)) :
    Calls Tryz.prog 53 #[.pointer (some ⟨r, 0, none⟩)] w (SomeR r G w insV (memoryA (ws, bad) 5)) := by
  have hrl := h.lt
  have hGw := h.G_le
  have HA1 := Lib.hid (own_instr w 0 0 0 0 0 0)
  have HR1 := Lib.hid (h.below (below_alloc (Below.refl _ _) (.cells #[.int .i64 0, .int .i64 0, .int .i64 0, .int .i64 0, .int .i64 0, .int .i64 0] 82)))
  have HG1 := Lib.hid (grown_below (row := some r) (below_alloc (Below.refl w.heap.size w) (.cells #[.int .i64 0, .int .i64 0, .int .i64 0, .int .i64 0, .int .i64 0, .int .i64 0] 82)))
  have hrA : r ≠ w.heap.size := by omega
  clear h
  go_enter Tryz.func53, Tryz.ntmps53
  have HC2 := Lib.hid (anext_cons { data := #[83, 84, 76, 82] } rfl _ HR1.out)
  go_wp2_with fail
  refine (HC2.out).mono ?_
  rintro e w2 ⟨rfl, hr, hg⟩
  have HR2 := Lib.hid hr
  have HG2 := Lib.hid (grown_thenR HG1.out hg)
  have HA2 := Lib.hid (HA1.out.kept hg (by intro e; injection e; omega))
  have hz2 := HA2.out.lt
  clear hr hg HC2 HR1 HG1 HA1
  have HC3 := Lib.hid (amemory_any _ 5 HR2.out)
  go_wp2_with fail
  refine (HC3.out).mono ?_
  rintro e w3 ⟨rfl, hr, hg⟩
  have HR3 := Lib.hid hr
  have HG3 := Lib.hid (grown_thenR HG2.out hg)
  have HA3 := Lib.hid (HA2.out.kept hg (by intro e; injection e; omega))
  have hz3 := HA3.out.lt
  clear hr hg HC3 HR2 HG2 HA2
  (try simp only [insV, instrW])
  obtain ⟨a0, a1, a2, a3, a4, a5⟩ := blk_instr HA3.out
  obtain ⟨af0, af1, af2, af3, af4, af5⟩ := free_instr HA3.out
  go_wp2_with fail
  refine bodyPost_ret (results_cell_row rfl _ _ w.heap.size 82 #[.int .i64 (memoryA (ws, bad) 5).1.op, .int .i64 (memoryA (ws, bad) 5).1.d, .int .i64 (memoryA (ws, bad) 5).1.n, .int .i64 (memoryA (ws, bad) 5).1.m, .int .i64 (memoryA (ws, bad) 5).1.imm, .int .i64 (memoryA (ws, bad) 5).1.kind] (0, 0) _ rfl (ins_set6 HA3.out ⟨(memoryA (ws, bad) 5).1.op, (memoryA (ws, bad) 5).1.d, (memoryA (ws, bad) 5).1.n, (memoryA (ws, bad) 5).1.m, (memoryA (ws, bad) 5).1.imm, (memoryA (ws, bad) 5).1.kind⟩) Tryz.underlying82 rfl (by kernel_rfl)) rfl ?_
  exact ⟨rfl, HR3.out.other6 hGw hrA ⟨(memoryA (ws, bad) 5).1.op, (memoryA (ws, bad) 5).1.d, (memoryA (ws, bad) 5).1.n, (memoryA (ws, bad) 5).1.m, (memoryA (ws, bad) 5).1.imm, (memoryA (ws, bad) 5).1.kind⟩, ins_grown6 HG3.out (Nat.le_refl _) ⟨(memoryA (ws, bad) 5).1.op, (memoryA (ws, bad) 5).1.d, (memoryA (ws, bad) 5).1.n, (memoryA (ws, bad) 5).1.m, (memoryA (ws, bad) 5).1.imm, (memoryA (ws, bad) 5).1.kind⟩⟩
set_option maxRecDepth 100000 in
set_option maxHeartbeats 1600000 in
theorem ainstr_MOV {r G : Nat} {ws : List (List UInt8)} {bad : Bool} (w : World) (h : ARd w r G ([77, 79, 86] :: ws, bad)) :
    Calls Tryz.prog 53 #[.pointer (some ⟨r, 0, none⟩)] w (SomeR r G w insV (moveA (ws, bad))) := by
  have hrl := h.lt
  have hGw := h.G_le
  have HA1 := Lib.hid (own_instr w 0 0 0 0 0 0)
  have HR1 := Lib.hid (h.below (below_alloc (Below.refl _ _) (.cells #[.int .i64 0, .int .i64 0, .int .i64 0, .int .i64 0, .int .i64 0, .int .i64 0] 82)))
  have HG1 := Lib.hid (grown_below (row := some r) (below_alloc (Below.refl w.heap.size w) (.cells #[.int .i64 0, .int .i64 0, .int .i64 0, .int .i64 0, .int .i64 0, .int .i64 0] 82)))
  have hrA : r ≠ w.heap.size := by omega
  clear h
  go_enter Tryz.func53, Tryz.ntmps53
  have HC2 := Lib.hid (anext_cons { data := #[77, 79, 86] } rfl _ HR1.out)
  go_wp2_with fail
  refine (HC2.out).mono ?_
  rintro e w2 ⟨rfl, hr, hg⟩
  have HR2 := Lib.hid hr
  have HG2 := Lib.hid (grown_thenR HG1.out hg)
  have HA2 := Lib.hid (HA1.out.kept hg (by intro e; injection e; omega))
  have hz2 := HA2.out.lt
  clear hr hg HC2 HR1 HG1 HA1
  have HC3 := Lib.hid (amove_any _ HR2.out)
  go_wp2_with fail
  refine (HC3.out).mono ?_
  rintro e w3 ⟨rfl, hr, hg⟩
  have HR3 := Lib.hid hr
  have HG3 := Lib.hid (grown_thenR HG2.out hg)
  have HA3 := Lib.hid (HA2.out.kept hg (by intro e; injection e; omega))
  have hz3 := HA3.out.lt
  clear hr hg HC3 HR2 HG2 HA2
  (try simp only [insV, instrW])
  obtain ⟨a0, a1, a2, a3, a4, a5⟩ := blk_instr HA3.out
  obtain ⟨af0, af1, af2, af3, af4, af5⟩ := free_instr HA3.out
  go_wp2_with fail
  refine bodyPost_ret (results_cell_row rfl _ _ w.heap.size 82 #[.int .i64 (moveA (ws, bad)).1.op, .int .i64 (moveA (ws, bad)).1.d, .int .i64 (moveA (ws, bad)).1.n, .int .i64 (moveA (ws, bad)).1.m, .int .i64 (moveA (ws, bad)).1.imm, .int .i64 (moveA (ws, bad)).1.kind] (0, 0) _ rfl (ins_set6 HA3.out ⟨(moveA (ws, bad)).1.op, (moveA (ws, bad)).1.d, (moveA (ws, bad)).1.n, (moveA (ws, bad)).1.m, (moveA (ws, bad)).1.imm, (moveA (ws, bad)).1.kind⟩) Tryz.underlying82 rfl (by kernel_rfl)) rfl ?_
  exact ⟨rfl, HR3.out.other6 hGw hrA ⟨(moveA (ws, bad)).1.op, (moveA (ws, bad)).1.d, (moveA (ws, bad)).1.n, (moveA (ws, bad)).1.m, (moveA (ws, bad)).1.imm, (moveA (ws, bad)).1.kind⟩, ins_grown6 HG3.out (Nat.le_refl _) ⟨(moveA (ws, bad)).1.op, (moveA (ws, bad)).1.d, (moveA (ws, bad)).1.n, (moveA (ws, bad)).1.m, (moveA (ws, bad)).1.imm, (moveA (ws, bad)).1.kind⟩⟩
set_option maxRecDepth 100000 in
set_option maxHeartbeats 1600000 in
theorem ainstr_MOVZ {r G : Nat} {ws : List (List UInt8)} {bad : Bool} (w : World) (h : ARd w r G ([77, 79, 86, 90] :: ws, bad)) :
    Calls Tryz.prog 53 #[.pointer (some ⟨r, 0, none⟩)] w (SomeR r G w insV (moveA (ws, bad))) := by
  have hrl := h.lt
  have hGw := h.G_le
  have HA1 := Lib.hid (own_instr w 0 0 0 0 0 0)
  have HR1 := Lib.hid (h.below (below_alloc (Below.refl _ _) (.cells #[.int .i64 0, .int .i64 0, .int .i64 0, .int .i64 0, .int .i64 0, .int .i64 0] 82)))
  have HG1 := Lib.hid (grown_below (row := some r) (below_alloc (Below.refl w.heap.size w) (.cells #[.int .i64 0, .int .i64 0, .int .i64 0, .int .i64 0, .int .i64 0, .int .i64 0] 82)))
  have hrA : r ≠ w.heap.size := by omega
  clear h
  go_enter Tryz.func53, Tryz.ntmps53
  have HC2 := Lib.hid (anext_cons { data := #[77, 79, 86, 90] } rfl _ HR1.out)
  go_wp2_with fail
  refine (HC2.out).mono ?_
  rintro e w2 ⟨rfl, hr, hg⟩
  have HR2 := Lib.hid hr
  have HG2 := Lib.hid (grown_thenR HG1.out hg)
  have HA2 := Lib.hid (HA1.out.kept hg (by intro e; injection e; omega))
  have hz2 := HA2.out.lt
  clear hr hg HC2 HR1 HG1 HA1
  have HC3 := Lib.hid (amove_any _ HR2.out)
  go_wp2_with fail
  refine (HC3.out).mono ?_
  rintro e w3 ⟨rfl, hr, hg⟩
  have HR3 := Lib.hid hr
  have HG3 := Lib.hid (grown_thenR HG2.out hg)
  have HA3 := Lib.hid (HA2.out.kept hg (by intro e; injection e; omega))
  have hz3 := HA3.out.lt
  clear hr hg HC3 HR2 HG2 HA2
  (try simp only [insV, instrW])
  obtain ⟨a0, a1, a2, a3, a4, a5⟩ := blk_instr HA3.out
  obtain ⟨af0, af1, af2, af3, af4, af5⟩ := free_instr HA3.out
  go_wp2_with fail
  refine bodyPost_ret (results_cell_row rfl _ _ w.heap.size 82 #[.int .i64 (moveA (ws, bad)).1.op, .int .i64 (moveA (ws, bad)).1.d, .int .i64 (moveA (ws, bad)).1.n, .int .i64 (moveA (ws, bad)).1.m, .int .i64 (moveA (ws, bad)).1.imm, .int .i64 (moveA (ws, bad)).1.kind] (0, 0) _ rfl (ins_set6 HA3.out ⟨(moveA (ws, bad)).1.op, (moveA (ws, bad)).1.d, (moveA (ws, bad)).1.n, (moveA (ws, bad)).1.m, (moveA (ws, bad)).1.imm, (moveA (ws, bad)).1.kind⟩) Tryz.underlying82 rfl (by kernel_rfl)) rfl ?_
  exact ⟨rfl, HR3.out.other6 hGw hrA ⟨(moveA (ws, bad)).1.op, (moveA (ws, bad)).1.d, (moveA (ws, bad)).1.n, (moveA (ws, bad)).1.m, (moveA (ws, bad)).1.imm, (moveA (ws, bad)).1.kind⟩, ins_grown6 HG3.out (Nat.le_refl _) ⟨(moveA (ws, bad)).1.op, (moveA (ws, bad)).1.d, (moveA (ws, bad)).1.n, (moveA (ws, bad)).1.m, (moveA (ws, bad)).1.imm, (moveA (ws, bad)).1.kind⟩⟩
set_option maxRecDepth 100000 in
set_option maxHeartbeats 1600000 in
theorem ainstr_ADD {r G : Nat} {ws : List (List UInt8)} {bad : Bool} (w : World) (h : ARd w r G ([65, 68, 68] :: ws, bad)) :
    Calls Tryz.prog 53 #[.pointer (some ⟨r, 0, none⟩)] w (SomeR r G w insV (addA (ws, bad))) := by
  have hrl := h.lt
  have hGw := h.G_le
  have HA1 := Lib.hid (own_instr w 0 0 0 0 0 0)
  have HR1 := Lib.hid (h.below (below_alloc (Below.refl _ _) (.cells #[.int .i64 0, .int .i64 0, .int .i64 0, .int .i64 0, .int .i64 0, .int .i64 0] 82)))
  have HG1 := Lib.hid (grown_below (row := some r) (below_alloc (Below.refl w.heap.size w) (.cells #[.int .i64 0, .int .i64 0, .int .i64 0, .int .i64 0, .int .i64 0, .int .i64 0] 82)))
  have hrA : r ≠ w.heap.size := by omega
  clear h
  go_enter Tryz.func53, Tryz.ntmps53
  have HC2 := Lib.hid (anext_cons { data := #[65, 68, 68] } rfl _ HR1.out)
  go_wp2_with fail
  refine (HC2.out).mono ?_
  rintro e w2 ⟨rfl, hr, hg⟩
  have HR2 := Lib.hid hr
  have HG2 := Lib.hid (grown_thenR HG1.out hg)
  have HA2 := Lib.hid (HA1.out.kept hg (by intro e; injection e; omega))
  have hz2 := HA2.out.lt
  clear hr hg HC2 HR1 HG1 HA1
  have HC3 := Lib.hid (aadd_any _ HR2.out)
  go_wp2_with fail
  refine (HC3.out).mono ?_
  rintro e w3 ⟨rfl, hr, hg⟩
  have HR3 := Lib.hid hr
  have HG3 := Lib.hid (grown_thenR HG2.out hg)
  have HA3 := Lib.hid (HA2.out.kept hg (by intro e; injection e; omega))
  have hz3 := HA3.out.lt
  clear hr hg HC3 HR2 HG2 HA2
  (try simp only [insV, instrW])
  obtain ⟨a0, a1, a2, a3, a4, a5⟩ := blk_instr HA3.out
  obtain ⟨af0, af1, af2, af3, af4, af5⟩ := free_instr HA3.out
  go_wp2_with fail
  refine bodyPost_ret (results_cell_row rfl _ _ w.heap.size 82 #[.int .i64 (addA (ws, bad)).1.op, .int .i64 (addA (ws, bad)).1.d, .int .i64 (addA (ws, bad)).1.n, .int .i64 (addA (ws, bad)).1.m, .int .i64 (addA (ws, bad)).1.imm, .int .i64 (addA (ws, bad)).1.kind] (0, 0) _ rfl (ins_set6 HA3.out ⟨(addA (ws, bad)).1.op, (addA (ws, bad)).1.d, (addA (ws, bad)).1.n, (addA (ws, bad)).1.m, (addA (ws, bad)).1.imm, (addA (ws, bad)).1.kind⟩) Tryz.underlying82 rfl (by kernel_rfl)) rfl ?_
  exact ⟨rfl, HR3.out.other6 hGw hrA ⟨(addA (ws, bad)).1.op, (addA (ws, bad)).1.d, (addA (ws, bad)).1.n, (addA (ws, bad)).1.m, (addA (ws, bad)).1.imm, (addA (ws, bad)).1.kind⟩, ins_grown6 HG3.out (Nat.le_refl _) ⟨(addA (ws, bad)).1.op, (addA (ws, bad)).1.d, (addA (ws, bad)).1.n, (addA (ws, bad)).1.m, (addA (ws, bad)).1.imm, (addA (ws, bad)).1.kind⟩⟩
set_option maxRecDepth 100000 in
set_option maxHeartbeats 1600000 in
theorem ainstr_SUB {r G : Nat} {ws : List (List UInt8)} {bad : Bool} (w : World) (h : ARd w r G ([83, 85, 66] :: ws, bad)) :
    Calls Tryz.prog 53 #[.pointer (some ⟨r, 0, none⟩)] w (SomeR r G w insV (threeA (ws, bad) 9)) := by
  have hrl := h.lt
  have hGw := h.G_le
  have HA1 := Lib.hid (own_instr w 0 0 0 0 0 0)
  have HR1 := Lib.hid (h.below (below_alloc (Below.refl _ _) (.cells #[.int .i64 0, .int .i64 0, .int .i64 0, .int .i64 0, .int .i64 0, .int .i64 0] 82)))
  have HG1 := Lib.hid (grown_below (row := some r) (below_alloc (Below.refl w.heap.size w) (.cells #[.int .i64 0, .int .i64 0, .int .i64 0, .int .i64 0, .int .i64 0, .int .i64 0] 82)))
  have hrA : r ≠ w.heap.size := by omega
  clear h
  go_enter Tryz.func53, Tryz.ntmps53
  have HC2 := Lib.hid (anext_cons { data := #[83, 85, 66] } rfl _ HR1.out)
  go_wp2_with fail
  refine (HC2.out).mono ?_
  rintro e w2 ⟨rfl, hr, hg⟩
  have HR2 := Lib.hid hr
  have HG2 := Lib.hid (grown_thenR HG1.out hg)
  have HA2 := Lib.hid (HA1.out.kept hg (by intro e; injection e; omega))
  have hz2 := HA2.out.lt
  clear hr hg HC2 HR1 HG1 HA1
  have HC3 := Lib.hid (athree_any _ 9 HR2.out)
  go_wp2_with fail
  refine (HC3.out).mono ?_
  rintro e w3 ⟨rfl, hr, hg⟩
  have HR3 := Lib.hid hr
  have HG3 := Lib.hid (grown_thenR HG2.out hg)
  have HA3 := Lib.hid (HA2.out.kept hg (by intro e; injection e; omega))
  have hz3 := HA3.out.lt
  clear hr hg HC3 HR2 HG2 HA2
  (try simp only [insV, instrW])
  obtain ⟨a0, a1, a2, a3, a4, a5⟩ := blk_instr HA3.out
  obtain ⟨af0, af1, af2, af3, af4, af5⟩ := free_instr HA3.out
  go_wp2_with fail
  refine bodyPost_ret (results_cell_row rfl _ _ w.heap.size 82 #[.int .i64 (threeA (ws, bad) 9).1.op, .int .i64 (threeA (ws, bad) 9).1.d, .int .i64 (threeA (ws, bad) 9).1.n, .int .i64 (threeA (ws, bad) 9).1.m, .int .i64 (threeA (ws, bad) 9).1.imm, .int .i64 (threeA (ws, bad) 9).1.kind] (0, 0) _ rfl (ins_set6 HA3.out ⟨(threeA (ws, bad) 9).1.op, (threeA (ws, bad) 9).1.d, (threeA (ws, bad) 9).1.n, (threeA (ws, bad) 9).1.m, (threeA (ws, bad) 9).1.imm, (threeA (ws, bad) 9).1.kind⟩) Tryz.underlying82 rfl (by kernel_rfl)) rfl ?_
  exact ⟨rfl, HR3.out.other6 hGw hrA ⟨(threeA (ws, bad) 9).1.op, (threeA (ws, bad) 9).1.d, (threeA (ws, bad) 9).1.n, (threeA (ws, bad) 9).1.m, (threeA (ws, bad) 9).1.imm, (threeA (ws, bad) 9).1.kind⟩, ins_grown6 HG3.out (Nat.le_refl _) ⟨(threeA (ws, bad) 9).1.op, (threeA (ws, bad) 9).1.d, (threeA (ws, bad) 9).1.n, (threeA (ws, bad) 9).1.m, (threeA (ws, bad) 9).1.imm, (threeA (ws, bad) 9).1.kind⟩⟩
set_option maxRecDepth 100000 in
set_option maxHeartbeats 1600000 in
theorem ainstr_AND {r G : Nat} {ws : List (List UInt8)} {bad : Bool} (w : World) (h : ARd w r G ([65, 78, 68] :: ws, bad)) :
    Calls Tryz.prog 53 #[.pointer (some ⟨r, 0, none⟩)] w (SomeR r G w insV (threeA (ws, bad) 10)) := by
  have hrl := h.lt
  have hGw := h.G_le
  have HA1 := Lib.hid (own_instr w 0 0 0 0 0 0)
  have HR1 := Lib.hid (h.below (below_alloc (Below.refl _ _) (.cells #[.int .i64 0, .int .i64 0, .int .i64 0, .int .i64 0, .int .i64 0, .int .i64 0] 82)))
  have HG1 := Lib.hid (grown_below (row := some r) (below_alloc (Below.refl w.heap.size w) (.cells #[.int .i64 0, .int .i64 0, .int .i64 0, .int .i64 0, .int .i64 0, .int .i64 0] 82)))
  have hrA : r ≠ w.heap.size := by omega
  clear h
  go_enter Tryz.func53, Tryz.ntmps53
  have HC2 := Lib.hid (anext_cons { data := #[65, 78, 68] } rfl _ HR1.out)
  go_wp2_with fail
  refine (HC2.out).mono ?_
  rintro e w2 ⟨rfl, hr, hg⟩
  have HR2 := Lib.hid hr
  have HG2 := Lib.hid (grown_thenR HG1.out hg)
  have HA2 := Lib.hid (HA1.out.kept hg (by intro e; injection e; omega))
  have hz2 := HA2.out.lt
  clear hr hg HC2 HR1 HG1 HA1
  have HC3 := Lib.hid (athree_any _ 10 HR2.out)
  go_wp2_with fail
  refine (HC3.out).mono ?_
  rintro e w3 ⟨rfl, hr, hg⟩
  have HR3 := Lib.hid hr
  have HG3 := Lib.hid (grown_thenR HG2.out hg)
  have HA3 := Lib.hid (HA2.out.kept hg (by intro e; injection e; omega))
  have hz3 := HA3.out.lt
  clear hr hg HC3 HR2 HG2 HA2
  (try simp only [insV, instrW])
  obtain ⟨a0, a1, a2, a3, a4, a5⟩ := blk_instr HA3.out
  obtain ⟨af0, af1, af2, af3, af4, af5⟩ := free_instr HA3.out
  go_wp2_with fail
  refine bodyPost_ret (results_cell_row rfl _ _ w.heap.size 82 #[.int .i64 (threeA (ws, bad) 10).1.op, .int .i64 (threeA (ws, bad) 10).1.d, .int .i64 (threeA (ws, bad) 10).1.n, .int .i64 (threeA (ws, bad) 10).1.m, .int .i64 (threeA (ws, bad) 10).1.imm, .int .i64 (threeA (ws, bad) 10).1.kind] (0, 0) _ rfl (ins_set6 HA3.out ⟨(threeA (ws, bad) 10).1.op, (threeA (ws, bad) 10).1.d, (threeA (ws, bad) 10).1.n, (threeA (ws, bad) 10).1.m, (threeA (ws, bad) 10).1.imm, (threeA (ws, bad) 10).1.kind⟩) Tryz.underlying82 rfl (by kernel_rfl)) rfl ?_
  exact ⟨rfl, HR3.out.other6 hGw hrA ⟨(threeA (ws, bad) 10).1.op, (threeA (ws, bad) 10).1.d, (threeA (ws, bad) 10).1.n, (threeA (ws, bad) 10).1.m, (threeA (ws, bad) 10).1.imm, (threeA (ws, bad) 10).1.kind⟩, ins_grown6 HG3.out (Nat.le_refl _) ⟨(threeA (ws, bad) 10).1.op, (threeA (ws, bad) 10).1.d, (threeA (ws, bad) 10).1.n, (threeA (ws, bad) 10).1.m, (threeA (ws, bad) 10).1.imm, (threeA (ws, bad) 10).1.kind⟩⟩
set_option maxRecDepth 100000 in
set_option maxHeartbeats 1600000 in
theorem ainstr_ORR {r G : Nat} {ws : List (List UInt8)} {bad : Bool} (w : World) (h : ARd w r G ([79, 82, 82] :: ws, bad)) :
    Calls Tryz.prog 53 #[.pointer (some ⟨r, 0, none⟩)] w (SomeR r G w insV (threeA (ws, bad) 11)) := by
  have hrl := h.lt
  have hGw := h.G_le
  have HA1 := Lib.hid (own_instr w 0 0 0 0 0 0)
  have HR1 := Lib.hid (h.below (below_alloc (Below.refl _ _) (.cells #[.int .i64 0, .int .i64 0, .int .i64 0, .int .i64 0, .int .i64 0, .int .i64 0] 82)))
  have HG1 := Lib.hid (grown_below (row := some r) (below_alloc (Below.refl w.heap.size w) (.cells #[.int .i64 0, .int .i64 0, .int .i64 0, .int .i64 0, .int .i64 0, .int .i64 0] 82)))
  have hrA : r ≠ w.heap.size := by omega
  clear h
  go_enter Tryz.func53, Tryz.ntmps53
  have HC2 := Lib.hid (anext_cons { data := #[79, 82, 82] } rfl _ HR1.out)
  go_wp2_with fail
  refine (HC2.out).mono ?_
  rintro e w2 ⟨rfl, hr, hg⟩
  have HR2 := Lib.hid hr
  have HG2 := Lib.hid (grown_thenR HG1.out hg)
  have HA2 := Lib.hid (HA1.out.kept hg (by intro e; injection e; omega))
  have hz2 := HA2.out.lt
  clear hr hg HC2 HR1 HG1 HA1
  have HC3 := Lib.hid (athree_any _ 11 HR2.out)
  go_wp2_with fail
  refine (HC3.out).mono ?_
  rintro e w3 ⟨rfl, hr, hg⟩
  have HR3 := Lib.hid hr
  have HG3 := Lib.hid (grown_thenR HG2.out hg)
  have HA3 := Lib.hid (HA2.out.kept hg (by intro e; injection e; omega))
  have hz3 := HA3.out.lt
  clear hr hg HC3 HR2 HG2 HA2
  (try simp only [insV, instrW])
  obtain ⟨a0, a1, a2, a3, a4, a5⟩ := blk_instr HA3.out
  obtain ⟨af0, af1, af2, af3, af4, af5⟩ := free_instr HA3.out
  go_wp2_with fail
  refine bodyPost_ret (results_cell_row rfl _ _ w.heap.size 82 #[.int .i64 (threeA (ws, bad) 11).1.op, .int .i64 (threeA (ws, bad) 11).1.d, .int .i64 (threeA (ws, bad) 11).1.n, .int .i64 (threeA (ws, bad) 11).1.m, .int .i64 (threeA (ws, bad) 11).1.imm, .int .i64 (threeA (ws, bad) 11).1.kind] (0, 0) _ rfl (ins_set6 HA3.out ⟨(threeA (ws, bad) 11).1.op, (threeA (ws, bad) 11).1.d, (threeA (ws, bad) 11).1.n, (threeA (ws, bad) 11).1.m, (threeA (ws, bad) 11).1.imm, (threeA (ws, bad) 11).1.kind⟩) Tryz.underlying82 rfl (by kernel_rfl)) rfl ?_
  exact ⟨rfl, HR3.out.other6 hGw hrA ⟨(threeA (ws, bad) 11).1.op, (threeA (ws, bad) 11).1.d, (threeA (ws, bad) 11).1.n, (threeA (ws, bad) 11).1.m, (threeA (ws, bad) 11).1.imm, (threeA (ws, bad) 11).1.kind⟩, ins_grown6 HG3.out (Nat.le_refl _) ⟨(threeA (ws, bad) 11).1.op, (threeA (ws, bad) 11).1.d, (threeA (ws, bad) 11).1.n, (threeA (ws, bad) 11).1.m, (threeA (ws, bad) 11).1.imm, (threeA (ws, bad) 11).1.kind⟩⟩
set_option maxRecDepth 100000 in
set_option maxHeartbeats 1600000 in
theorem ainstr_EOR {r G : Nat} {ws : List (List UInt8)} {bad : Bool} (w : World) (h : ARd w r G ([69, 79, 82] :: ws, bad)) :
    Calls Tryz.prog 53 #[.pointer (some ⟨r, 0, none⟩)] w (SomeR r G w insV (threeA (ws, bad) 12)) := by
  have hrl := h.lt
  have hGw := h.G_le
  have HA1 := Lib.hid (own_instr w 0 0 0 0 0 0)
  have HR1 := Lib.hid (h.below (below_alloc (Below.refl _ _) (.cells #[.int .i64 0, .int .i64 0, .int .i64 0, .int .i64 0, .int .i64 0, .int .i64 0] 82)))
  have HG1 := Lib.hid (grown_below (row := some r) (below_alloc (Below.refl w.heap.size w) (.cells #[.int .i64 0, .int .i64 0, .int .i64 0, .int .i64 0, .int .i64 0, .int .i64 0] 82)))
  have hrA : r ≠ w.heap.size := by omega
  clear h
  go_enter Tryz.func53, Tryz.ntmps53
  have HC2 := Lib.hid (anext_cons { data := #[69, 79, 82] } rfl _ HR1.out)
  go_wp2_with fail
  refine (HC2.out).mono ?_
  rintro e w2 ⟨rfl, hr, hg⟩
  have HR2 := Lib.hid hr
  have HG2 := Lib.hid (grown_thenR HG1.out hg)
  have HA2 := Lib.hid (HA1.out.kept hg (by intro e; injection e; omega))
  have hz2 := HA2.out.lt
  clear hr hg HC2 HR1 HG1 HA1
  have HC3 := Lib.hid (athree_any _ 12 HR2.out)
  go_wp2_with fail
  refine (HC3.out).mono ?_
  rintro e w3 ⟨rfl, hr, hg⟩
  have HR3 := Lib.hid hr
  have HG3 := Lib.hid (grown_thenR HG2.out hg)
  have HA3 := Lib.hid (HA2.out.kept hg (by intro e; injection e; omega))
  have hz3 := HA3.out.lt
  clear hr hg HC3 HR2 HG2 HA2
  (try simp only [insV, instrW])
  obtain ⟨a0, a1, a2, a3, a4, a5⟩ := blk_instr HA3.out
  obtain ⟨af0, af1, af2, af3, af4, af5⟩ := free_instr HA3.out
  go_wp2_with fail
  refine bodyPost_ret (results_cell_row rfl _ _ w.heap.size 82 #[.int .i64 (threeA (ws, bad) 12).1.op, .int .i64 (threeA (ws, bad) 12).1.d, .int .i64 (threeA (ws, bad) 12).1.n, .int .i64 (threeA (ws, bad) 12).1.m, .int .i64 (threeA (ws, bad) 12).1.imm, .int .i64 (threeA (ws, bad) 12).1.kind] (0, 0) _ rfl (ins_set6 HA3.out ⟨(threeA (ws, bad) 12).1.op, (threeA (ws, bad) 12).1.d, (threeA (ws, bad) 12).1.n, (threeA (ws, bad) 12).1.m, (threeA (ws, bad) 12).1.imm, (threeA (ws, bad) 12).1.kind⟩) Tryz.underlying82 rfl (by kernel_rfl)) rfl ?_
  exact ⟨rfl, HR3.out.other6 hGw hrA ⟨(threeA (ws, bad) 12).1.op, (threeA (ws, bad) 12).1.d, (threeA (ws, bad) 12).1.n, (threeA (ws, bad) 12).1.m, (threeA (ws, bad) 12).1.imm, (threeA (ws, bad) 12).1.kind⟩, ins_grown6 HG3.out (Nat.le_refl _) ⟨(threeA (ws, bad) 12).1.op, (threeA (ws, bad) 12).1.d, (threeA (ws, bad) 12).1.n, (threeA (ws, bad) 12).1.m, (threeA (ws, bad) 12).1.imm, (threeA (ws, bad) 12).1.kind⟩⟩
set_option maxRecDepth 100000 in
set_option maxHeartbeats 1600000 in
theorem ainstr_SUBS {r G : Nat} {ws : List (List UInt8)} {bad : Bool} (w : World) (h : ARd w r G ([83, 85, 66, 83] :: ws, bad)) :
    Calls Tryz.prog 53 #[.pointer (some ⟨r, 0, none⟩)] w (SomeR r G w insV (threeA (ws, bad) 13)) := by
  have hrl := h.lt
  have hGw := h.G_le
  have HA1 := Lib.hid (own_instr w 0 0 0 0 0 0)
  have HR1 := Lib.hid (h.below (below_alloc (Below.refl _ _) (.cells #[.int .i64 0, .int .i64 0, .int .i64 0, .int .i64 0, .int .i64 0, .int .i64 0] 82)))
  have HG1 := Lib.hid (grown_below (row := some r) (below_alloc (Below.refl w.heap.size w) (.cells #[.int .i64 0, .int .i64 0, .int .i64 0, .int .i64 0, .int .i64 0, .int .i64 0] 82)))
  have hrA : r ≠ w.heap.size := by omega
  clear h
  go_enter Tryz.func53, Tryz.ntmps53
  have HC2 := Lib.hid (anext_cons { data := #[83, 85, 66, 83] } rfl _ HR1.out)
  go_wp2_with fail
  refine (HC2.out).mono ?_
  rintro e w2 ⟨rfl, hr, hg⟩
  have HR2 := Lib.hid hr
  have HG2 := Lib.hid (grown_thenR HG1.out hg)
  have HA2 := Lib.hid (HA1.out.kept hg (by intro e; injection e; omega))
  have hz2 := HA2.out.lt
  clear hr hg HC2 HR1 HG1 HA1
  have HC3 := Lib.hid (athree_any _ 13 HR2.out)
  go_wp2_with fail
  refine (HC3.out).mono ?_
  rintro e w3 ⟨rfl, hr, hg⟩
  have HR3 := Lib.hid hr
  have HG3 := Lib.hid (grown_thenR HG2.out hg)
  have HA3 := Lib.hid (HA2.out.kept hg (by intro e; injection e; omega))
  have hz3 := HA3.out.lt
  clear hr hg HC3 HR2 HG2 HA2
  (try simp only [insV, instrW])
  obtain ⟨a0, a1, a2, a3, a4, a5⟩ := blk_instr HA3.out
  obtain ⟨af0, af1, af2, af3, af4, af5⟩ := free_instr HA3.out
  go_wp2_with fail
  refine bodyPost_ret (results_cell_row rfl _ _ w.heap.size 82 #[.int .i64 (threeA (ws, bad) 13).1.op, .int .i64 (threeA (ws, bad) 13).1.d, .int .i64 (threeA (ws, bad) 13).1.n, .int .i64 (threeA (ws, bad) 13).1.m, .int .i64 (threeA (ws, bad) 13).1.imm, .int .i64 (threeA (ws, bad) 13).1.kind] (0, 0) _ rfl (ins_set6 HA3.out ⟨(threeA (ws, bad) 13).1.op, (threeA (ws, bad) 13).1.d, (threeA (ws, bad) 13).1.n, (threeA (ws, bad) 13).1.m, (threeA (ws, bad) 13).1.imm, (threeA (ws, bad) 13).1.kind⟩) Tryz.underlying82 rfl (by kernel_rfl)) rfl ?_
  exact ⟨rfl, HR3.out.other6 hGw hrA ⟨(threeA (ws, bad) 13).1.op, (threeA (ws, bad) 13).1.d, (threeA (ws, bad) 13).1.n, (threeA (ws, bad) 13).1.m, (threeA (ws, bad) 13).1.imm, (threeA (ws, bad) 13).1.kind⟩, ins_grown6 HG3.out (Nat.le_refl _) ⟨(threeA (ws, bad) 13).1.op, (threeA (ws, bad) 13).1.d, (threeA (ws, bad) 13).1.n, (threeA (ws, bad) 13).1.m, (threeA (ws, bad) 13).1.imm, (threeA (ws, bad) 13).1.kind⟩⟩
set_option maxRecDepth 100000 in
set_option maxHeartbeats 1600000 in
theorem ainstr_CMP {r G : Nat} {ws : List (List UInt8)} {bad : Bool} (w : World) (h : ARd w r G ([67, 77, 80] :: ws, bad)) :
    Calls Tryz.prog 53 #[.pointer (some ⟨r, 0, none⟩)] w (SomeR r G w insV (cmpA (ws, bad))) := by
  have hrl := h.lt
  have hGw := h.G_le
  have HA1 := Lib.hid (own_instr w 0 0 0 0 0 0)
  have HR1 := Lib.hid (h.below (below_alloc (Below.refl _ _) (.cells #[.int .i64 0, .int .i64 0, .int .i64 0, .int .i64 0, .int .i64 0, .int .i64 0] 82)))
  have HG1 := Lib.hid (grown_below (row := some r) (below_alloc (Below.refl w.heap.size w) (.cells #[.int .i64 0, .int .i64 0, .int .i64 0, .int .i64 0, .int .i64 0, .int .i64 0] 82)))
  have hrA : r ≠ w.heap.size := by omega
  clear h
  go_enter Tryz.func53, Tryz.ntmps53
  have HC2 := Lib.hid (anext_cons { data := #[67, 77, 80] } rfl _ HR1.out)
  go_wp2_with fail
  refine (HC2.out).mono ?_
  rintro e w2 ⟨rfl, hr, hg⟩
  have HR2 := Lib.hid hr
  have HG2 := Lib.hid (grown_thenR HG1.out hg)
  have HA2 := Lib.hid (HA1.out.kept hg (by intro e; injection e; omega))
  have hz2 := HA2.out.lt
  clear hr hg HC2 HR1 HG1 HA1
  have HC3 := Lib.hid (areg_any _ HR2.out)
  go_wp2_with fail
  refine (HC3.out).mono ?_
  rintro e w3 ⟨rfl, hr, hg⟩
  have HR3 := Lib.hid hr
  have HG3 := Lib.hid (grown_thenR HG2.out hg)
  have HA3 := Lib.hid (HA2.out.kept hg (by intro e; injection e; omega))
  have hz3 := HA3.out.lt
  clear hr hg HC3 HR2 HG2 HA2
  (try simp only [intV, boolV])
  have HB4 := Lib.hid (own_instr w3 13 31 (regA (ws, bad)).1 0 0 0)
  have HR4 := Lib.hid (HR3.out.below (below_alloc (Below.refl (w3).heap.size w3) (.cells #[.int .i64 13, .int .i64 31, .int .i64 (regA (ws, bad)).1, .int .i64 0, .int .i64 0, .int .i64 0] 82)))
  have HG4 := Lib.hid (grown_thenR HG3.out (grown_below (below_alloc (Below.refl (w3).heap.size w3) (.cells #[.int .i64 13, .int .i64 31, .int .i64 (regA (ws, bad)).1, .int .i64 0, .int .i64 0, .int .i64 0] 82))))
  have HA4 := Lib.hid (HA3.out.alloc (.cells #[.int .i64 13, .int .i64 31, .int .i64 (regA (ws, bad)).1, .int .i64 0, .int .i64 0, .int .i64 0] 82))
  have hAB : w.heap.size ≠ (w3).heap.size := by omega
  have hrB : r ≠ (w3).heap.size := by omega
  have hGB : G ≤ (w3).heap.size := by omega
  have hwB : w.heap.size ≤ (w3).heap.size := by omega
  clear HR3 HG3 HA3
  have HC5 := Lib.hid (amust_any _ [44] HR4.out)
  go_wp2_with fail
  refine (HC5.out).mono ?_
  rintro e w5 ⟨rfl, hr, hg⟩
  have HR5 := Lib.hid hr
  have HG5 := Lib.hid (grown_thenR HG4.out hg)
  have HA5 := Lib.hid (HA4.out.kept hg (by intro e; injection e; omega))
  have HB5 := Lib.hid (HB4.out.kept hg (by intro e; injection e; omega))
  have hz5 := HA5.out.lt
  have hzb5 := HB5.out.lt
  clear hr hg HC5 HR4 HG4 HA4 HB4
  (try simp only [intV, boolV])
  have HC6 := Lib.hid (areg_any _ HR5.out)
  go_wp2_with fail
  refine (HC6.out).mono ?_
  rintro e w6 ⟨rfl, hr, hg⟩
  have HR6 := Lib.hid hr
  have HG6 := Lib.hid (grown_thenR HG5.out hg)
  have HA6 := Lib.hid (HA5.out.kept hg (by intro e; injection e; omega))
  have HB6 := Lib.hid (HB5.out.kept hg (by intro e; injection e; omega))
  have hz6 := HA6.out.lt
  have hzb6 := HB6.out.lt
  clear hr hg HC6 HR5 HG5 HA5 HB5
  (try simp only [intV, boolV])
  obtain ⟨b0, b1, b2, b3, b4, b5⟩ := blk_instr HB6.out
  obtain ⟨bf0, bf1, bf2, bf3, bf4, bf5⟩ := free_instr HB6.out
  have HB7 := Lib.hid (show Blk (w6.setCell ⟨w3.heap.size, 3, none⟩ (.int .i64 (regA (mustA (regA (ws, bad)).2 [44])).1)) 82 (w3.heap.size) (instrL 13 31 (regA (ws, bad)).1 (regA (mustA (regA (ws, bad)).2 [44])).1 0 0) from by simpa [instrL] using HB6.out.set 3 (.int .i64 (regA (mustA (regA (ws, bad)).2 [44])).1))
  have HR7 := Lib.hid (HR6.out.other hGB hrB 3 (.int .i64 (regA (mustA (regA (ws, bad)).2 [44])).1))
  have HG7 := Lib.hid (grown_one HG6.out hwB 3 (.int .i64 (regA (mustA (regA (ws, bad)).2 [44])).1))
  have HA7 := Lib.hid (HA6.out.other (p := ⟨w3.heap.size, 3, none⟩) hAB (.int .i64 (regA (mustA (regA (ws, bad)).2 [44])).1))
  clear HR6 HG6 HA6 HB6
  obtain ⟨a0, a1, a2, a3, a4, a5⟩ := blk_instr HA7.out
  obtain ⟨af0, af1, af2, af3, af4, af5⟩ := free_instr HA7.out
  go_wp2_with fail
  refine bodyPost_ret (results_cell_row rfl _ _ w.heap.size 82 #[.int .i64 13, .int .i64 31, .int .i64 (regA (ws, bad)).1, .int .i64 (regA (mustA (regA (ws, bad)).2 [44])).1, .int .i64 0, .int .i64 0] (0, 0) _ rfl (ins_set6 HA7.out ⟨13, 31, (regA (ws, bad)).1, (regA (mustA (regA (ws, bad)).2 [44])).1, 0, 0⟩) Tryz.underlying82 rfl (by kernel_rfl)) rfl ?_
  exact ⟨rfl, HR7.out.other6 hGw hrA ⟨13, 31, (regA (ws, bad)).1, (regA (mustA (regA (ws, bad)).2 [44])).1, 0, 0⟩, ins_grown6 HG7.out (Nat.le_refl _) ⟨13, 31, (regA (ws, bad)).1, (regA (mustA (regA (ws, bad)).2 [44])).1, 0, 0⟩⟩
set_option maxRecDepth 100000 in
set_option maxHeartbeats 1600000 in
theorem ainstr_B {r G : Nat} {ws : List (List UInt8)} {bad : Bool} (w : World) (h : ARd w r G ([66] :: ws, bad)) :
    Calls Tryz.prog 53 #[.pointer (some ⟨r, 0, none⟩)] w (SomeR r G w insV ((⟨14, 0, 0, 0, (branchA (ws, bad)).1, 0⟩, (branchA (ws, bad)).2))) := by
  have hrl := h.lt
  have hGw := h.G_le
  have HA1 := Lib.hid (own_instr w 0 0 0 0 0 0)
  have HR1 := Lib.hid (h.below (below_alloc (Below.refl _ _) (.cells #[.int .i64 0, .int .i64 0, .int .i64 0, .int .i64 0, .int .i64 0, .int .i64 0] 82)))
  have HG1 := Lib.hid (grown_below (row := some r) (below_alloc (Below.refl w.heap.size w) (.cells #[.int .i64 0, .int .i64 0, .int .i64 0, .int .i64 0, .int .i64 0, .int .i64 0] 82)))
  have hrA : r ≠ w.heap.size := by omega
  clear h
  go_enter Tryz.func53, Tryz.ntmps53
  have HC2 := Lib.hid (anext_cons { data := #[66] } rfl _ HR1.out)
  go_wp2_with fail
  refine (HC2.out).mono ?_
  rintro e w2 ⟨rfl, hr, hg⟩
  have HR2 := Lib.hid hr
  have HG2 := Lib.hid (grown_thenR HG1.out hg)
  have HA2 := Lib.hid (HA1.out.kept hg (by intro e; injection e; omega))
  have hz2 := HA2.out.lt
  clear hr hg HC2 HR1 HG1 HA1
  have HC3 := Lib.hid (abranch_any _ HR2.out)
  go_wp2_with fail
  refine (HC3.out).mono ?_
  rintro e w3 ⟨rfl, hr, hg⟩
  have HR3 := Lib.hid hr
  have HG3 := Lib.hid (grown_thenR HG2.out hg)
  have HA3 := Lib.hid (HA2.out.kept hg (by intro e; injection e; omega))
  have hz3 := HA3.out.lt
  clear hr hg HC3 HR2 HG2 HA2
  (try simp only [intV, boolV])
  obtain ⟨a0, a1, a2, a3, a4, a5⟩ := blk_instr HA3.out
  obtain ⟨af0, af1, af2, af3, af4, af5⟩ := free_instr HA3.out
  go_wp2_with fail
  refine bodyPost_ret (results_cell_row rfl _ _ w.heap.size 82 #[.int .i64 14, .int .i64 0, .int .i64 0, .int .i64 0, .int .i64 (branchA (ws, bad)).1, .int .i64 0] (0, 0) _ rfl (ins_set6 HA3.out ⟨14, 0, 0, 0, (branchA (ws, bad)).1, 0⟩) Tryz.underlying82 rfl (by kernel_rfl)) rfl ?_
  exact ⟨rfl, HR3.out.other6 hGw hrA ⟨14, 0, 0, 0, (branchA (ws, bad)).1, 0⟩, ins_grown6 HG3.out (Nat.le_refl _) ⟨14, 0, 0, 0, (branchA (ws, bad)).1, 0⟩⟩
set_option maxRecDepth 100000 in
set_option maxHeartbeats 1600000 in
theorem ainstr_BEQ {r G : Nat} {ws : List (List UInt8)} {bad : Bool} (w : World) (h : ARd w r G ([66, 46, 69, 81] :: ws, bad)) :
    Calls Tryz.prog 53 #[.pointer (some ⟨r, 0, none⟩)] w (SomeR r G w insV ((⟨17, 0, 0, 0, (branchA (ws, bad)).1, 0⟩, (branchA (ws, bad)).2))) := by
  have hrl := h.lt
  have hGw := h.G_le
  have HA1 := Lib.hid (own_instr w 0 0 0 0 0 0)
  have HR1 := Lib.hid (h.below (below_alloc (Below.refl _ _) (.cells #[.int .i64 0, .int .i64 0, .int .i64 0, .int .i64 0, .int .i64 0, .int .i64 0] 82)))
  have HG1 := Lib.hid (grown_below (row := some r) (below_alloc (Below.refl w.heap.size w) (.cells #[.int .i64 0, .int .i64 0, .int .i64 0, .int .i64 0, .int .i64 0, .int .i64 0] 82)))
  have hrA : r ≠ w.heap.size := by omega
  clear h
  go_enter Tryz.func53, Tryz.ntmps53
  have HC2 := Lib.hid (anext_cons { data := #[66, 46, 69, 81] } rfl _ HR1.out)
  go_wp2_with fail
  refine (HC2.out).mono ?_
  rintro e w2 ⟨rfl, hr, hg⟩
  have HR2 := Lib.hid hr
  have HG2 := Lib.hid (grown_thenR HG1.out hg)
  have HA2 := Lib.hid (HA1.out.kept hg (by intro e; injection e; omega))
  have hz2 := HA2.out.lt
  clear hr hg HC2 HR1 HG1 HA1
  have HC3 := Lib.hid (abranch_any _ HR2.out)
  go_wp2_with fail
  refine (HC3.out).mono ?_
  rintro e w3 ⟨rfl, hr, hg⟩
  have HR3 := Lib.hid hr
  have HG3 := Lib.hid (grown_thenR HG2.out hg)
  have HA3 := Lib.hid (HA2.out.kept hg (by intro e; injection e; omega))
  have hz3 := HA3.out.lt
  clear hr hg HC3 HR2 HG2 HA2
  (try simp only [intV, boolV])
  obtain ⟨a0, a1, a2, a3, a4, a5⟩ := blk_instr HA3.out
  obtain ⟨af0, af1, af2, af3, af4, af5⟩ := free_instr HA3.out
  go_wp2_with fail
  refine bodyPost_ret (results_cell_row rfl _ _ w.heap.size 82 #[.int .i64 17, .int .i64 0, .int .i64 0, .int .i64 0, .int .i64 (branchA (ws, bad)).1, .int .i64 0] (0, 0) _ rfl (ins_set6 HA3.out ⟨17, 0, 0, 0, (branchA (ws, bad)).1, 0⟩) Tryz.underlying82 rfl (by kernel_rfl)) rfl ?_
  exact ⟨rfl, HR3.out.other6 hGw hrA ⟨17, 0, 0, 0, (branchA (ws, bad)).1, 0⟩, ins_grown6 HG3.out (Nat.le_refl _) ⟨17, 0, 0, 0, (branchA (ws, bad)).1, 0⟩⟩
set_option maxRecDepth 100000 in
set_option maxHeartbeats 1600000 in
theorem ainstr_BNE {r G : Nat} {ws : List (List UInt8)} {bad : Bool} (w : World) (h : ARd w r G ([66, 46, 78, 69] :: ws, bad)) :
    Calls Tryz.prog 53 #[.pointer (some ⟨r, 0, none⟩)] w (SomeR r G w insV ((⟨17, 0, 0, 0, (branchA (ws, bad)).1, 1⟩, (branchA (ws, bad)).2))) := by
  have hrl := h.lt
  have hGw := h.G_le
  have HA1 := Lib.hid (own_instr w 0 0 0 0 0 0)
  have HR1 := Lib.hid (h.below (below_alloc (Below.refl _ _) (.cells #[.int .i64 0, .int .i64 0, .int .i64 0, .int .i64 0, .int .i64 0, .int .i64 0] 82)))
  have HG1 := Lib.hid (grown_below (row := some r) (below_alloc (Below.refl w.heap.size w) (.cells #[.int .i64 0, .int .i64 0, .int .i64 0, .int .i64 0, .int .i64 0, .int .i64 0] 82)))
  have hrA : r ≠ w.heap.size := by omega
  clear h
  go_enter Tryz.func53, Tryz.ntmps53
  have HC2 := Lib.hid (anext_cons { data := #[66, 46, 78, 69] } rfl _ HR1.out)
  go_wp2_with fail
  refine (HC2.out).mono ?_
  rintro e w2 ⟨rfl, hr, hg⟩
  have HR2 := Lib.hid hr
  have HG2 := Lib.hid (grown_thenR HG1.out hg)
  have HA2 := Lib.hid (HA1.out.kept hg (by intro e; injection e; omega))
  have hz2 := HA2.out.lt
  clear hr hg HC2 HR1 HG1 HA1
  have HC3 := Lib.hid (abranch_any _ HR2.out)
  go_wp2_with fail
  refine (HC3.out).mono ?_
  rintro e w3 ⟨rfl, hr, hg⟩
  have HR3 := Lib.hid hr
  have HG3 := Lib.hid (grown_thenR HG2.out hg)
  have HA3 := Lib.hid (HA2.out.kept hg (by intro e; injection e; omega))
  have hz3 := HA3.out.lt
  clear hr hg HC3 HR2 HG2 HA2
  (try simp only [intV, boolV])
  obtain ⟨a0, a1, a2, a3, a4, a5⟩ := blk_instr HA3.out
  obtain ⟨af0, af1, af2, af3, af4, af5⟩ := free_instr HA3.out
  go_wp2_with fail
  refine bodyPost_ret (results_cell_row rfl _ _ w.heap.size 82 #[.int .i64 17, .int .i64 0, .int .i64 0, .int .i64 0, .int .i64 (branchA (ws, bad)).1, .int .i64 1] (0, 0) _ rfl (ins_set6 HA3.out ⟨17, 0, 0, 0, (branchA (ws, bad)).1, 1⟩) Tryz.underlying82 rfl (by kernel_rfl)) rfl ?_
  exact ⟨rfl, HR3.out.other6 hGw hrA ⟨17, 0, 0, 0, (branchA (ws, bad)).1, 1⟩, ins_grown6 HG3.out (Nat.le_refl _) ⟨17, 0, 0, 0, (branchA (ws, bad)).1, 1⟩⟩
set_option maxRecDepth 100000 in
set_option maxHeartbeats 1600000 in
theorem ainstr_CBZ {r G : Nat} {ws : List (List UInt8)} {bad : Bool} (w : World) (h : ARd w r G ([67, 66, 90] :: ws, bad)) :
    Calls Tryz.prog 53 #[.pointer (some ⟨r, 0, none⟩)] w (SomeR r G w insV (testA (ws, bad) 15)) := by
  have hrl := h.lt
  have hGw := h.G_le
  have HA1 := Lib.hid (own_instr w 0 0 0 0 0 0)
  have HR1 := Lib.hid (h.below (below_alloc (Below.refl _ _) (.cells #[.int .i64 0, .int .i64 0, .int .i64 0, .int .i64 0, .int .i64 0, .int .i64 0] 82)))
  have HG1 := Lib.hid (grown_below (row := some r) (below_alloc (Below.refl w.heap.size w) (.cells #[.int .i64 0, .int .i64 0, .int .i64 0, .int .i64 0, .int .i64 0, .int .i64 0] 82)))
  have hrA : r ≠ w.heap.size := by omega
  clear h
  go_enter Tryz.func53, Tryz.ntmps53
  have HC2 := Lib.hid (anext_cons { data := #[67, 66, 90] } rfl _ HR1.out)
  go_wp2_with fail
  refine (HC2.out).mono ?_
  rintro e w2 ⟨rfl, hr, hg⟩
  have HR2 := Lib.hid hr
  have HG2 := Lib.hid (grown_thenR HG1.out hg)
  have HA2 := Lib.hid (HA1.out.kept hg (by intro e; injection e; omega))
  have hz2 := HA2.out.lt
  clear hr hg HC2 HR1 HG1 HA1
  have HC3 := Lib.hid (atest_any _ 15 HR2.out)
  go_wp2_with fail
  refine (HC3.out).mono ?_
  rintro e w3 ⟨rfl, hr, hg⟩
  have HR3 := Lib.hid hr
  have HG3 := Lib.hid (grown_thenR HG2.out hg)
  have HA3 := Lib.hid (HA2.out.kept hg (by intro e; injection e; omega))
  have hz3 := HA3.out.lt
  clear hr hg HC3 HR2 HG2 HA2
  (try simp only [insV, instrW])
  obtain ⟨a0, a1, a2, a3, a4, a5⟩ := blk_instr HA3.out
  obtain ⟨af0, af1, af2, af3, af4, af5⟩ := free_instr HA3.out
  go_wp2_with fail
  refine bodyPost_ret (results_cell_row rfl _ _ w.heap.size 82 #[.int .i64 (testA (ws, bad) 15).1.op, .int .i64 (testA (ws, bad) 15).1.d, .int .i64 (testA (ws, bad) 15).1.n, .int .i64 (testA (ws, bad) 15).1.m, .int .i64 (testA (ws, bad) 15).1.imm, .int .i64 (testA (ws, bad) 15).1.kind] (0, 0) _ rfl (ins_set6 HA3.out ⟨(testA (ws, bad) 15).1.op, (testA (ws, bad) 15).1.d, (testA (ws, bad) 15).1.n, (testA (ws, bad) 15).1.m, (testA (ws, bad) 15).1.imm, (testA (ws, bad) 15).1.kind⟩) Tryz.underlying82 rfl (by kernel_rfl)) rfl ?_
  exact ⟨rfl, HR3.out.other6 hGw hrA ⟨(testA (ws, bad) 15).1.op, (testA (ws, bad) 15).1.d, (testA (ws, bad) 15).1.n, (testA (ws, bad) 15).1.m, (testA (ws, bad) 15).1.imm, (testA (ws, bad) 15).1.kind⟩, ins_grown6 HG3.out (Nat.le_refl _) ⟨(testA (ws, bad) 15).1.op, (testA (ws, bad) 15).1.d, (testA (ws, bad) 15).1.n, (testA (ws, bad) 15).1.m, (testA (ws, bad) 15).1.imm, (testA (ws, bad) 15).1.kind⟩⟩
set_option maxRecDepth 100000 in
set_option maxHeartbeats 1600000 in
theorem ainstr_CBNZ {r G : Nat} {ws : List (List UInt8)} {bad : Bool} (w : World) (h : ARd w r G ([67, 66, 78, 90] :: ws, bad)) :
    Calls Tryz.prog 53 #[.pointer (some ⟨r, 0, none⟩)] w (SomeR r G w insV (testA (ws, bad) 16)) := by
  have hrl := h.lt
  have hGw := h.G_le
  have HA1 := Lib.hid (own_instr w 0 0 0 0 0 0)
  have HR1 := Lib.hid (h.below (below_alloc (Below.refl _ _) (.cells #[.int .i64 0, .int .i64 0, .int .i64 0, .int .i64 0, .int .i64 0, .int .i64 0] 82)))
  have HG1 := Lib.hid (grown_below (row := some r) (below_alloc (Below.refl w.heap.size w) (.cells #[.int .i64 0, .int .i64 0, .int .i64 0, .int .i64 0, .int .i64 0, .int .i64 0] 82)))
  have hrA : r ≠ w.heap.size := by omega
  clear h
  go_enter Tryz.func53, Tryz.ntmps53
  have HC2 := Lib.hid (anext_cons { data := #[67, 66, 78, 90] } rfl _ HR1.out)
  go_wp2_with fail
  refine (HC2.out).mono ?_
  rintro e w2 ⟨rfl, hr, hg⟩
  have HR2 := Lib.hid hr
  have HG2 := Lib.hid (grown_thenR HG1.out hg)
  have HA2 := Lib.hid (HA1.out.kept hg (by intro e; injection e; omega))
  have hz2 := HA2.out.lt
  clear hr hg HC2 HR1 HG1 HA1
  have HC3 := Lib.hid (atest_any _ 16 HR2.out)
  go_wp2_with fail
  refine (HC3.out).mono ?_
  rintro e w3 ⟨rfl, hr, hg⟩
  have HR3 := Lib.hid hr
  have HG3 := Lib.hid (grown_thenR HG2.out hg)
  have HA3 := Lib.hid (HA2.out.kept hg (by intro e; injection e; omega))
  have hz3 := HA3.out.lt
  clear hr hg HC3 HR2 HG2 HA2
  (try simp only [insV, instrW])
  obtain ⟨a0, a1, a2, a3, a4, a5⟩ := blk_instr HA3.out
  obtain ⟨af0, af1, af2, af3, af4, af5⟩ := free_instr HA3.out
  go_wp2_with fail
  refine bodyPost_ret (results_cell_row rfl _ _ w.heap.size 82 #[.int .i64 (testA (ws, bad) 16).1.op, .int .i64 (testA (ws, bad) 16).1.d, .int .i64 (testA (ws, bad) 16).1.n, .int .i64 (testA (ws, bad) 16).1.m, .int .i64 (testA (ws, bad) 16).1.imm, .int .i64 (testA (ws, bad) 16).1.kind] (0, 0) _ rfl (ins_set6 HA3.out ⟨(testA (ws, bad) 16).1.op, (testA (ws, bad) 16).1.d, (testA (ws, bad) 16).1.n, (testA (ws, bad) 16).1.m, (testA (ws, bad) 16).1.imm, (testA (ws, bad) 16).1.kind⟩) Tryz.underlying82 rfl (by kernel_rfl)) rfl ?_
  exact ⟨rfl, HR3.out.other6 hGw hrA ⟨(testA (ws, bad) 16).1.op, (testA (ws, bad) 16).1.d, (testA (ws, bad) 16).1.n, (testA (ws, bad) 16).1.m, (testA (ws, bad) 16).1.imm, (testA (ws, bad) 16).1.kind⟩, ins_grown6 HG3.out (Nat.le_refl _) ⟨(testA (ws, bad) 16).1.op, (testA (ws, bad) 16).1.d, (testA (ws, bad) 16).1.n, (testA (ws, bad) 16).1.m, (testA (ws, bad) 16).1.imm, (testA (ws, bad) 16).1.kind⟩⟩
set_option maxRecDepth 100000 in
set_option maxHeartbeats 1600000 in
theorem ainstr_DMB {r G : Nat} {ws : List (List UInt8)} {bad : Bool} (w : World) (h : ARd w r G ([68, 77, 66] :: ws, bad)) :
    Calls Tryz.prog 53 #[.pointer (some ⟨r, 0, none⟩)] w (SomeR r G w insV ((⟨18, 0, 0, 0, 0, (kindA (ws, bad) 16 barN).1⟩, (kindA (ws, bad) 16 barN).2))) := by
  have hrl := h.lt
  have hGw := h.G_le
  have HA1 := Lib.hid (own_instr w 0 0 0 0 0 0)
  have HR1 := Lib.hid (h.below (below_alloc (Below.refl _ _) (.cells #[.int .i64 0, .int .i64 0, .int .i64 0, .int .i64 0, .int .i64 0, .int .i64 0] 82)))
  have HG1 := Lib.hid (grown_below (row := some r) (below_alloc (Below.refl w.heap.size w) (.cells #[.int .i64 0, .int .i64 0, .int .i64 0, .int .i64 0, .int .i64 0, .int .i64 0] 82)))
  have hrA : r ≠ w.heap.size := by omega
  clear h
  go_enter Tryz.func53, Tryz.ntmps53
  have HC2 := Lib.hid (anext_cons { data := #[68, 77, 66] } rfl _ HR1.out)
  go_wp2_with fail
  refine (HC2.out).mono ?_
  rintro e w2 ⟨rfl, hr, hg⟩
  have HR2 := Lib.hid hr
  have HG2 := Lib.hid (grown_thenR HG1.out hg)
  have HA2 := Lib.hid (HA1.out.kept hg (by intro e; injection e; omega))
  have hz2 := HA2.out.lt
  clear hr hg HC2 HR1 HG1 HA1
  have HC3 := Lib.hid (akind_any _ 71 16 barN bar_names (by decide) enters37 HR2.out)
  go_wp2_with fail
  refine (HC3.out).mono ?_
  rintro e w3 ⟨rfl, hr, hg⟩
  have HR3 := Lib.hid hr
  have HG3 := Lib.hid (grown_thenR HG2.out hg)
  have HA3 := Lib.hid (HA2.out.kept hg (by intro e; injection e; omega))
  have hz3 := HA3.out.lt
  clear hr hg HC3 HR2 HG2 HA2
  (try simp only [intV, boolV])
  obtain ⟨a0, a1, a2, a3, a4, a5⟩ := blk_instr HA3.out
  obtain ⟨af0, af1, af2, af3, af4, af5⟩ := free_instr HA3.out
  go_wp2_with fail
  refine bodyPost_ret (results_cell_row rfl _ _ w.heap.size 82 #[.int .i64 18, .int .i64 0, .int .i64 0, .int .i64 0, .int .i64 0, .int .i64 (kindA (ws, bad) 16 barN).1] (0, 0) _ rfl (ins_set6 HA3.out ⟨18, 0, 0, 0, 0, (kindA (ws, bad) 16 barN).1⟩) Tryz.underlying82 rfl (by kernel_rfl)) rfl ?_
  exact ⟨rfl, HR3.out.other6 hGw hrA ⟨18, 0, 0, 0, 0, (kindA (ws, bad) 16 barN).1⟩, ins_grown6 HG3.out (Nat.le_refl _) ⟨18, 0, 0, 0, 0, (kindA (ws, bad) 16 barN).1⟩⟩
set_option maxRecDepth 100000 in
set_option maxHeartbeats 1600000 in
theorem ainstr_DSB {r G : Nat} {ws : List (List UInt8)} {bad : Bool} (w : World) (h : ARd w r G ([68, 83, 66] :: ws, bad)) :
    Calls Tryz.prog 53 #[.pointer (some ⟨r, 0, none⟩)] w (SomeR r G w insV ((⟨19, 0, 0, 0, 0, (kindA (ws, bad) 16 barN).1⟩, (kindA (ws, bad) 16 barN).2))) := by
  have hrl := h.lt
  have hGw := h.G_le
  have HA1 := Lib.hid (own_instr w 0 0 0 0 0 0)
  have HR1 := Lib.hid (h.below (below_alloc (Below.refl _ _) (.cells #[.int .i64 0, .int .i64 0, .int .i64 0, .int .i64 0, .int .i64 0, .int .i64 0] 82)))
  have HG1 := Lib.hid (grown_below (row := some r) (below_alloc (Below.refl w.heap.size w) (.cells #[.int .i64 0, .int .i64 0, .int .i64 0, .int .i64 0, .int .i64 0, .int .i64 0] 82)))
  have hrA : r ≠ w.heap.size := by omega
  clear h
  go_enter Tryz.func53, Tryz.ntmps53
  have HC2 := Lib.hid (anext_cons { data := #[68, 83, 66] } rfl _ HR1.out)
  go_wp2_with fail
  refine (HC2.out).mono ?_
  rintro e w2 ⟨rfl, hr, hg⟩
  have HR2 := Lib.hid hr
  have HG2 := Lib.hid (grown_thenR HG1.out hg)
  have HA2 := Lib.hid (HA1.out.kept hg (by intro e; injection e; omega))
  have hz2 := HA2.out.lt
  clear hr hg HC2 HR1 HG1 HA1
  have HC3 := Lib.hid (akind_any _ 71 16 barN bar_names (by decide) enters37 HR2.out)
  go_wp2_with fail
  refine (HC3.out).mono ?_
  rintro e w3 ⟨rfl, hr, hg⟩
  have HR3 := Lib.hid hr
  have HG3 := Lib.hid (grown_thenR HG2.out hg)
  have HA3 := Lib.hid (HA2.out.kept hg (by intro e; injection e; omega))
  have hz3 := HA3.out.lt
  clear hr hg HC3 HR2 HG2 HA2
  (try simp only [intV, boolV])
  obtain ⟨a0, a1, a2, a3, a4, a5⟩ := blk_instr HA3.out
  obtain ⟨af0, af1, af2, af3, af4, af5⟩ := free_instr HA3.out
  go_wp2_with fail
  refine bodyPost_ret (results_cell_row rfl _ _ w.heap.size 82 #[.int .i64 19, .int .i64 0, .int .i64 0, .int .i64 0, .int .i64 0, .int .i64 (kindA (ws, bad) 16 barN).1] (0, 0) _ rfl (ins_set6 HA3.out ⟨19, 0, 0, 0, 0, (kindA (ws, bad) 16 barN).1⟩) Tryz.underlying82 rfl (by kernel_rfl)) rfl ?_
  exact ⟨rfl, HR3.out.other6 hGw hrA ⟨19, 0, 0, 0, 0, (kindA (ws, bad) 16 barN).1⟩, ins_grown6 HG3.out (Nat.le_refl _) ⟨19, 0, 0, 0, 0, (kindA (ws, bad) 16 barN).1⟩⟩
set_option maxRecDepth 100000 in
set_option maxHeartbeats 1600000 in
theorem ainstr_TLBI {r G : Nat} {ws : List (List UInt8)} {bad : Bool} (w : World) (h : ARd w r G ([84, 76, 66, 73] :: ws, bad)) :
    Calls Tryz.prog 53 #[.pointer (some ⟨r, 0, none⟩)] w (SomeR r G w insV (flushA (ws, bad))) := by
  have hrl := h.lt
  have hGw := h.G_le
  have HA1 := Lib.hid (own_instr w 0 0 0 0 0 0)
  have HR1 := Lib.hid (h.below (below_alloc (Below.refl _ _) (.cells #[.int .i64 0, .int .i64 0, .int .i64 0, .int .i64 0, .int .i64 0, .int .i64 0] 82)))
  have HG1 := Lib.hid (grown_below (row := some r) (below_alloc (Below.refl w.heap.size w) (.cells #[.int .i64 0, .int .i64 0, .int .i64 0, .int .i64 0, .int .i64 0, .int .i64 0] 82)))
  have hrA : r ≠ w.heap.size := by omega
  clear h
  go_enter Tryz.func53, Tryz.ntmps53
  have HC2 := Lib.hid (anext_cons { data := #[84, 76, 66, 73] } rfl _ HR1.out)
  go_wp2_with fail
  refine (HC2.out).mono ?_
  rintro e w2 ⟨rfl, hr, hg⟩
  have HR2 := Lib.hid hr
  have HG2 := Lib.hid (grown_thenR HG1.out hg)
  have HA2 := Lib.hid (HA1.out.kept hg (by intro e; injection e; omega))
  have hz2 := HA2.out.lt
  clear hr hg HC2 HR1 HG1 HA1
  have HC3 := Lib.hid (aflushr_any _ HR2.out)
  go_wp2_with fail
  refine (HC3.out).mono ?_
  rintro e w3 ⟨rfl, hr, hg⟩
  have HR3 := Lib.hid hr
  have HG3 := Lib.hid (grown_thenR HG2.out hg)
  have HA3 := Lib.hid (HA2.out.kept hg (by intro e; injection e; omega))
  have hz3 := HA3.out.lt
  clear hr hg HC3 HR2 HG2 HA2
  (try simp only [insV, instrW])
  obtain ⟨a0, a1, a2, a3, a4, a5⟩ := blk_instr HA3.out
  obtain ⟨af0, af1, af2, af3, af4, af5⟩ := free_instr HA3.out
  go_wp2_with fail
  refine bodyPost_ret (results_cell_row rfl _ _ w.heap.size 82 #[.int .i64 (flushA (ws, bad)).1.op, .int .i64 (flushA (ws, bad)).1.d, .int .i64 (flushA (ws, bad)).1.n, .int .i64 (flushA (ws, bad)).1.m, .int .i64 (flushA (ws, bad)).1.imm, .int .i64 (flushA (ws, bad)).1.kind] (0, 0) _ rfl (ins_set6 HA3.out ⟨(flushA (ws, bad)).1.op, (flushA (ws, bad)).1.d, (flushA (ws, bad)).1.n, (flushA (ws, bad)).1.m, (flushA (ws, bad)).1.imm, (flushA (ws, bad)).1.kind⟩) Tryz.underlying82 rfl (by kernel_rfl)) rfl ?_
  exact ⟨rfl, HR3.out.other6 hGw hrA ⟨(flushA (ws, bad)).1.op, (flushA (ws, bad)).1.d, (flushA (ws, bad)).1.n, (flushA (ws, bad)).1.m, (flushA (ws, bad)).1.imm, (flushA (ws, bad)).1.kind⟩, ins_grown6 HG3.out (Nat.le_refl _) ⟨(flushA (ws, bad)).1.op, (flushA (ws, bad)).1.d, (flushA (ws, bad)).1.n, (flushA (ws, bad)).1.m, (flushA (ws, bad)).1.imm, (flushA (ws, bad)).1.kind⟩⟩
set_option maxRecDepth 100000 in
set_option maxHeartbeats 1600000 in
theorem ainstr_MRS {r G : Nat} {ws : List (List UInt8)} {bad : Bool} (w : World) (h : ARd w r G ([77, 82, 83] :: ws, bad)) :
    Calls Tryz.prog 53 #[.pointer (some ⟨r, 0, none⟩)] w (SomeR r G w insV (mrsA (ws, bad))) := by
  have hrl := h.lt
  have hGw := h.G_le
  have HA1 := Lib.hid (own_instr w 0 0 0 0 0 0)
  have HR1 := Lib.hid (h.below (below_alloc (Below.refl _ _) (.cells #[.int .i64 0, .int .i64 0, .int .i64 0, .int .i64 0, .int .i64 0, .int .i64 0] 82)))
  have HG1 := Lib.hid (grown_below (row := some r) (below_alloc (Below.refl w.heap.size w) (.cells #[.int .i64 0, .int .i64 0, .int .i64 0, .int .i64 0, .int .i64 0, .int .i64 0] 82)))
  have hrA : r ≠ w.heap.size := by omega
  clear h
  go_enter Tryz.func53, Tryz.ntmps53
  have HC2 := Lib.hid (anext_cons { data := #[77, 82, 83] } rfl _ HR1.out)
  go_wp2_with fail
  refine (HC2.out).mono ?_
  rintro e w2 ⟨rfl, hr, hg⟩
  have HR2 := Lib.hid hr
  have HG2 := Lib.hid (grown_thenR HG1.out hg)
  have HA2 := Lib.hid (HA1.out.kept hg (by intro e; injection e; omega))
  have hz2 := HA2.out.lt
  clear hr hg HC2 HR1 HG1 HA1
  have HC3 := Lib.hid (areg_any _ HR2.out)
  go_wp2_with fail
  refine (HC3.out).mono ?_
  rintro e w3 ⟨rfl, hr, hg⟩
  have HR3 := Lib.hid hr
  have HG3 := Lib.hid (grown_thenR HG2.out hg)
  have HA3 := Lib.hid (HA2.out.kept hg (by intro e; injection e; omega))
  have hz3 := HA3.out.lt
  clear hr hg HC3 HR2 HG2 HA2
  (try simp only [intV, boolV])
  have HB4 := Lib.hid (own_instr w3 23 (regA (ws, bad)).1 0 0 0 0)
  have HR4 := Lib.hid (HR3.out.below (below_alloc (Below.refl (w3).heap.size w3) (.cells #[.int .i64 23, .int .i64 (regA (ws, bad)).1, .int .i64 0, .int .i64 0, .int .i64 0, .int .i64 0] 82)))
  have HG4 := Lib.hid (grown_thenR HG3.out (grown_below (below_alloc (Below.refl (w3).heap.size w3) (.cells #[.int .i64 23, .int .i64 (regA (ws, bad)).1, .int .i64 0, .int .i64 0, .int .i64 0, .int .i64 0] 82))))
  have HA4 := Lib.hid (HA3.out.alloc (.cells #[.int .i64 23, .int .i64 (regA (ws, bad)).1, .int .i64 0, .int .i64 0, .int .i64 0, .int .i64 0] 82))
  have hAB : w.heap.size ≠ (w3).heap.size := by omega
  have hrB : r ≠ (w3).heap.size := by omega
  have hGB : G ≤ (w3).heap.size := by omega
  have hwB : w.heap.size ≤ (w3).heap.size := by omega
  clear HR3 HG3 HA3
  have HC5 := Lib.hid (amust_any _ [44] HR4.out)
  go_wp2_with fail
  refine (HC5.out).mono ?_
  rintro e w5 ⟨rfl, hr, hg⟩
  have HR5 := Lib.hid hr
  have HG5 := Lib.hid (grown_thenR HG4.out hg)
  have HA5 := Lib.hid (HA4.out.kept hg (by intro e; injection e; omega))
  have HB5 := Lib.hid (HB4.out.kept hg (by intro e; injection e; omega))
  have hz5 := HA5.out.lt
  have hzb5 := HB5.out.lt
  clear hr hg HC5 HR4 HG4 HA4 HB4
  (try simp only [intV, boolV])
  have HC6 := Lib.hid (akind_any _ 73 3 sysN sys_names (by decide) enters39 HR5.out)
  go_wp2_with fail
  refine (HC6.out).mono ?_
  rintro e w6 ⟨rfl, hr, hg⟩
  have HR6 := Lib.hid hr
  have HG6 := Lib.hid (grown_thenR HG5.out hg)
  have HA6 := Lib.hid (HA5.out.kept hg (by intro e; injection e; omega))
  have HB6 := Lib.hid (HB5.out.kept hg (by intro e; injection e; omega))
  have hz6 := HA6.out.lt
  have hzb6 := HB6.out.lt
  clear hr hg HC6 HR5 HG5 HA5 HB5
  (try simp only [intV, boolV])
  obtain ⟨b0, b1, b2, b3, b4, b5⟩ := blk_instr HB6.out
  obtain ⟨bf0, bf1, bf2, bf3, bf4, bf5⟩ := free_instr HB6.out
  have HB7 := Lib.hid (show Blk (w6.setCell ⟨w3.heap.size, 5, none⟩ (.int .i64 (kindA (mustA (regA (ws, bad)).2 [44]) 3 sysN).1)) 82 (w3.heap.size) (instrL 23 (regA (ws, bad)).1 0 0 0 (kindA (mustA (regA (ws, bad)).2 [44]) 3 sysN).1) from by simpa [instrL] using HB6.out.set 5 (.int .i64 (kindA (mustA (regA (ws, bad)).2 [44]) 3 sysN).1))
  have HR7 := Lib.hid (HR6.out.other hGB hrB 5 (.int .i64 (kindA (mustA (regA (ws, bad)).2 [44]) 3 sysN).1))
  have HG7 := Lib.hid (grown_one HG6.out hwB 5 (.int .i64 (kindA (mustA (regA (ws, bad)).2 [44]) 3 sysN).1))
  have HA7 := Lib.hid (HA6.out.other (p := ⟨w3.heap.size, 5, none⟩) hAB (.int .i64 (kindA (mustA (regA (ws, bad)).2 [44]) 3 sysN).1))
  clear HR6 HG6 HA6 HB6
  obtain ⟨a0, a1, a2, a3, a4, a5⟩ := blk_instr HA7.out
  obtain ⟨af0, af1, af2, af3, af4, af5⟩ := free_instr HA7.out
  go_wp2_with fail
  refine bodyPost_ret (results_cell_row rfl _ _ w.heap.size 82 #[.int .i64 23, .int .i64 (regA (ws, bad)).1, .int .i64 0, .int .i64 0, .int .i64 0, .int .i64 (kindA (mustA (regA (ws, bad)).2 [44]) 3 sysN).1] (0, 0) _ rfl (ins_set6 HA7.out ⟨23, (regA (ws, bad)).1, 0, 0, 0, (kindA (mustA (regA (ws, bad)).2 [44]) 3 sysN).1⟩) Tryz.underlying82 rfl (by kernel_rfl)) rfl ?_
  exact ⟨rfl, HR7.out.other6 hGw hrA ⟨23, (regA (ws, bad)).1, 0, 0, 0, (kindA (mustA (regA (ws, bad)).2 [44]) 3 sysN).1⟩, ins_grown6 HG7.out (Nat.le_refl _) ⟨23, (regA (ws, bad)).1, 0, 0, 0, (kindA (mustA (regA (ws, bad)).2 [44]) 3 sysN).1⟩⟩
set_option maxRecDepth 100000 in
set_option maxHeartbeats 1600000 in
theorem ainstr_none {r G : Nat} {s : AS} (w : World) (h : ARd w r G s) (n0 : ¬ (nextA s).1 = [78, 79, 80]) (n1 : ¬ (nextA s).1 = [73, 83, 66]) (n2 : ¬ (nextA s).1 = [69, 82, 69, 84]) (n3 : ¬ (nextA s).1 = [76, 68, 82]) (n4 : ¬ (nextA s).1 = [83, 84, 82]) (n5 : ¬ (nextA s).1 = [76, 68, 65, 82]) (n6 : ¬ (nextA s).1 = [83, 84, 76, 82]) (n7 : ¬ (nextA s).1 = [77, 79, 86]) (n8 : ¬ (nextA s).1 = [77, 79, 86, 90]) (n9 : ¬ (nextA s).1 = [65, 68, 68]) (n10 : ¬ (nextA s).1 = [83, 85, 66]) (n11 : ¬ (nextA s).1 = [65, 78, 68]) (n12 : ¬ (nextA s).1 = [79, 82, 82]) (n13 : ¬ (nextA s).1 = [69, 79, 82]) (n14 : ¬ (nextA s).1 = [83, 85, 66, 83]) (n15 : ¬ (nextA s).1 = [67, 77, 80]) (n16 : ¬ (nextA s).1 = [66]) (n17 : ¬ (nextA s).1 = [66, 46, 69, 81]) (n18 : ¬ (nextA s).1 = [66, 46, 78, 69]) (n19 : ¬ (nextA s).1 = [67, 66, 90]) (n20 : ¬ (nextA s).1 = [67, 66, 78, 90]) (n21 : ¬ (nextA s).1 = [68, 77, 66]) (n22 : ¬ (nextA s).1 = [68, 83, 66]) (n23 : ¬ (nextA s).1 = [84, 76, 66, 73]) (n24 : ¬ (nextA s).1 = [77, 82, 83]) :
    Calls Tryz.prog 53 #[.pointer (some ⟨r, 0, none⟩)] w (SomeR r G w insV ((Ins.none, badA (nextA s).2 true))) := by
  have hrl := h.lt
  have hGw := h.G_le
  have HA1 := Lib.hid (own_instr w 0 0 0 0 0 0)
  have HR1 := Lib.hid (h.below (below_alloc (Below.refl _ _) (.cells #[.int .i64 0, .int .i64 0, .int .i64 0, .int .i64 0, .int .i64 0, .int .i64 0] 82)))
  have HG1 := Lib.hid (grown_below (row := some r) (below_alloc (Below.refl w.heap.size w) (.cells #[.int .i64 0, .int .i64 0, .int .i64 0, .int .i64 0, .int .i64 0, .int .i64 0] 82)))
  have hrA : r ≠ w.heap.size := by omega
  clear h
  have HNX := Lib.hid (fun w1 (hh : ARd w1 r G s) => anext_any w1 hh)
  generalize nextA s = y at *
  obtain ⟨x, s2⟩ := y
  simp only at n0 n1 n2 n3 n4 n5 n6 n7 n8 n9 n10 n11 n12 n13 n14 n15 n16 n17 n18 n19 n20 n21 n22 n23 n24
  have m0 : ((ba x).toList == ([78, 79, 80] : List UInt8)) = false := by rw [ba_toList]; exact beq_eq_false_iff_ne.2 n0
  have m1 : ((ba x).toList == ([73, 83, 66] : List UInt8)) = false := by rw [ba_toList]; exact beq_eq_false_iff_ne.2 n1
  have m2 : ((ba x).toList == ([69, 82, 69, 84] : List UInt8)) = false := by rw [ba_toList]; exact beq_eq_false_iff_ne.2 n2
  have m3 : ((ba x).toList == ([76, 68, 82] : List UInt8)) = false := by rw [ba_toList]; exact beq_eq_false_iff_ne.2 n3
  have m4 : ((ba x).toList == ([83, 84, 82] : List UInt8)) = false := by rw [ba_toList]; exact beq_eq_false_iff_ne.2 n4
  have m5 : ((ba x).toList == ([76, 68, 65, 82] : List UInt8)) = false := by rw [ba_toList]; exact beq_eq_false_iff_ne.2 n5
  have m6 : ((ba x).toList == ([83, 84, 76, 82] : List UInt8)) = false := by rw [ba_toList]; exact beq_eq_false_iff_ne.2 n6
  have m7 : ((ba x).toList == ([77, 79, 86] : List UInt8)) = false := by rw [ba_toList]; exact beq_eq_false_iff_ne.2 n7
  have m8 : ((ba x).toList == ([77, 79, 86, 90] : List UInt8)) = false := by rw [ba_toList]; exact beq_eq_false_iff_ne.2 n8
  have m9 : ((ba x).toList == ([65, 68, 68] : List UInt8)) = false := by rw [ba_toList]; exact beq_eq_false_iff_ne.2 n9
  have m10 : ((ba x).toList == ([83, 85, 66] : List UInt8)) = false := by rw [ba_toList]; exact beq_eq_false_iff_ne.2 n10
  have m11 : ((ba x).toList == ([65, 78, 68] : List UInt8)) = false := by rw [ba_toList]; exact beq_eq_false_iff_ne.2 n11
  have m12 : ((ba x).toList == ([79, 82, 82] : List UInt8)) = false := by rw [ba_toList]; exact beq_eq_false_iff_ne.2 n12
  have m13 : ((ba x).toList == ([69, 79, 82] : List UInt8)) = false := by rw [ba_toList]; exact beq_eq_false_iff_ne.2 n13
  have m14 : ((ba x).toList == ([83, 85, 66, 83] : List UInt8)) = false := by rw [ba_toList]; exact beq_eq_false_iff_ne.2 n14
  have m15 : ((ba x).toList == ([67, 77, 80] : List UInt8)) = false := by rw [ba_toList]; exact beq_eq_false_iff_ne.2 n15
  have m16 : ((ba x).toList == ([66] : List UInt8)) = false := by rw [ba_toList]; exact beq_eq_false_iff_ne.2 n16
  have m17 : ((ba x).toList == ([66, 46, 69, 81] : List UInt8)) = false := by rw [ba_toList]; exact beq_eq_false_iff_ne.2 n17
  have m18 : ((ba x).toList == ([66, 46, 78, 69] : List UInt8)) = false := by rw [ba_toList]; exact beq_eq_false_iff_ne.2 n18
  have m19 : ((ba x).toList == ([67, 66, 90] : List UInt8)) = false := by rw [ba_toList]; exact beq_eq_false_iff_ne.2 n19
  have m20 : ((ba x).toList == ([67, 66, 78, 90] : List UInt8)) = false := by rw [ba_toList]; exact beq_eq_false_iff_ne.2 n20
  have m21 : ((ba x).toList == ([68, 77, 66] : List UInt8)) = false := by rw [ba_toList]; exact beq_eq_false_iff_ne.2 n21
  have m22 : ((ba x).toList == ([68, 83, 66] : List UInt8)) = false := by rw [ba_toList]; exact beq_eq_false_iff_ne.2 n22
  have m23 : ((ba x).toList == ([84, 76, 66, 73] : List UInt8)) = false := by rw [ba_toList]; exact beq_eq_false_iff_ne.2 n23
  have m24 : ((ba x).toList == ([77, 82, 83] : List UInt8)) = false := by rw [ba_toList]; exact beq_eq_false_iff_ne.2 n24
  clear n0 n1 n2 n3 n4 n5 n6 n7 n8 n9 n10 n11 n12 n13 n14 n15 n16 n17 n18 n19 n20 n21 n22 n23 n24
  obtain ⟨ws, bad⟩ := s2
  go_enter Tryz.func53, Tryz.ntmps53
  have HC2 := Lib.hid (HNX.out _ HR1.out)
  go_wp2_with fail
  refine (HC2.out).mono ?_
  rintro e w2 ⟨rfl, hr, hg⟩
  have HR2 := Lib.hid hr
  have HG2 := Lib.hid (grown_thenR HG1.out hg)
  have HA2 := Lib.hid (HA1.out.kept hg (by intro e; injection e; omega))
  have hz2 := HA2.out.lt
  clear hr hg HC2 HR1 HG1 HA1
  have hr9 := HR2.out
  have hrl9 := hr9.lt
  obtain ⟨p9, cc, hB, _⟩ := hr9
  have c0 := hB.cell 0
  have c1 := hB.cell 1
  have f0 := hB.free 0
  have f1 := hB.free 1
  simp only [List.getElem?_cons_zero, List.getElem?_cons_succ] at c0 c1
  clear hB
  obtain ⟨a0, a1, a2, a3, a4, a5⟩ := blk_instr HA2.out
  obtain ⟨af0, af1, af2, af3, af4, af5⟩ := free_instr HA2.out
  have HR3 := Lib.hid (HR2.out.bad true)
  have HG3 := Lib.hid (grown_thenR HG2.out (grown_setR _ r 1 (.bool (bad || true))))
  have HA3 := Lib.hid (HA2.out.other (p := ⟨r, 1, none⟩) (by simp; omega) (.bool (bad || true)))
  simp only [Bool.or_true] at HR3 HG3 HA3
  go_wp2_with fail
  refine bodyPost_ret (results_cell_row rfl _ _ w.heap.size 82 #[.int .i64 0, .int .i64 0, .int .i64 0, .int .i64 0, .int .i64 0, .int .i64 0] (0, 0) _ rfl (ins_set6 HA3.out ⟨0, 0, 0, 0, 0, 0⟩) Tryz.underlying82 rfl (by kernel_rfl)) rfl ?_
  exact ⟨rfl, HR3.out.other6 hGw hrA ⟨0, 0, 0, 0, 0, 0⟩, ins_grown6 HG3.out (Nat.le_refl _) ⟨0, 0, 0, 0, 0, 0⟩⟩
theorem ainstr_any {r G : Nat} {s : AS} (w : World) (h : ARd w r G s) : Calls Tryz.prog 53 #[.pointer (some ⟨r, 0, none⟩)] w (SomeR r G w insV (instrA s)) := by
  by_cases n0 : (nextA s).1 = [78, 79, 80]
  · obtain ⟨ws, bad⟩ := s
    cases ws with
    | nil => cases n0
    | cons x ws =>
      obtain rfl : x = [78, 79, 80] := n0
      exact ainstr_NOP w h
  by_cases n1 : (nextA s).1 = [73, 83, 66]
  · obtain ⟨ws, bad⟩ := s
    cases ws with
    | nil => cases n1
    | cons x ws =>
      obtain rfl : x = [73, 83, 66] := n1
      exact ainstr_ISB w h
  by_cases n2 : (nextA s).1 = [69, 82, 69, 84]
  · obtain ⟨ws, bad⟩ := s
    cases ws with
    | nil => cases n2
    | cons x ws =>
      obtain rfl : x = [69, 82, 69, 84] := n2
      exact ainstr_ERET w h
  by_cases n3 : (nextA s).1 = [76, 68, 82]
  · obtain ⟨ws, bad⟩ := s
    cases ws with
    | nil => cases n3
    | cons x ws =>
      obtain rfl : x = [76, 68, 82] := n3
      exact ainstr_LDR w h
  by_cases n4 : (nextA s).1 = [83, 84, 82]
  · obtain ⟨ws, bad⟩ := s
    cases ws with
    | nil => cases n4
    | cons x ws =>
      obtain rfl : x = [83, 84, 82] := n4
      exact ainstr_STR w h
  by_cases n5 : (nextA s).1 = [76, 68, 65, 82]
  · obtain ⟨ws, bad⟩ := s
    cases ws with
    | nil => cases n5
    | cons x ws =>
      obtain rfl : x = [76, 68, 65, 82] := n5
      exact ainstr_LDAR w h
  by_cases n6 : (nextA s).1 = [83, 84, 76, 82]
  · obtain ⟨ws, bad⟩ := s
    cases ws with
    | nil => cases n6
    | cons x ws =>
      obtain rfl : x = [83, 84, 76, 82] := n6
      exact ainstr_STLR w h
  by_cases n7 : (nextA s).1 = [77, 79, 86]
  · obtain ⟨ws, bad⟩ := s
    cases ws with
    | nil => cases n7
    | cons x ws =>
      obtain rfl : x = [77, 79, 86] := n7
      exact ainstr_MOV w h
  by_cases n8 : (nextA s).1 = [77, 79, 86, 90]
  · obtain ⟨ws, bad⟩ := s
    cases ws with
    | nil => cases n8
    | cons x ws =>
      obtain rfl : x = [77, 79, 86, 90] := n8
      exact ainstr_MOVZ w h
  by_cases n9 : (nextA s).1 = [65, 68, 68]
  · obtain ⟨ws, bad⟩ := s
    cases ws with
    | nil => cases n9
    | cons x ws =>
      obtain rfl : x = [65, 68, 68] := n9
      exact ainstr_ADD w h
  by_cases n10 : (nextA s).1 = [83, 85, 66]
  · obtain ⟨ws, bad⟩ := s
    cases ws with
    | nil => cases n10
    | cons x ws =>
      obtain rfl : x = [83, 85, 66] := n10
      exact ainstr_SUB w h
  by_cases n11 : (nextA s).1 = [65, 78, 68]
  · obtain ⟨ws, bad⟩ := s
    cases ws with
    | nil => cases n11
    | cons x ws =>
      obtain rfl : x = [65, 78, 68] := n11
      exact ainstr_AND w h
  by_cases n12 : (nextA s).1 = [79, 82, 82]
  · obtain ⟨ws, bad⟩ := s
    cases ws with
    | nil => cases n12
    | cons x ws =>
      obtain rfl : x = [79, 82, 82] := n12
      exact ainstr_ORR w h
  by_cases n13 : (nextA s).1 = [69, 79, 82]
  · obtain ⟨ws, bad⟩ := s
    cases ws with
    | nil => cases n13
    | cons x ws =>
      obtain rfl : x = [69, 79, 82] := n13
      exact ainstr_EOR w h
  by_cases n14 : (nextA s).1 = [83, 85, 66, 83]
  · obtain ⟨ws, bad⟩ := s
    cases ws with
    | nil => cases n14
    | cons x ws =>
      obtain rfl : x = [83, 85, 66, 83] := n14
      exact ainstr_SUBS w h
  by_cases n15 : (nextA s).1 = [67, 77, 80]
  · obtain ⟨ws, bad⟩ := s
    cases ws with
    | nil => cases n15
    | cons x ws =>
      obtain rfl : x = [67, 77, 80] := n15
      exact ainstr_CMP w h
  by_cases n16 : (nextA s).1 = [66]
  · obtain ⟨ws, bad⟩ := s
    cases ws with
    | nil => cases n16
    | cons x ws =>
      obtain rfl : x = [66] := n16
      exact ainstr_B w h
  by_cases n17 : (nextA s).1 = [66, 46, 69, 81]
  · obtain ⟨ws, bad⟩ := s
    cases ws with
    | nil => cases n17
    | cons x ws =>
      obtain rfl : x = [66, 46, 69, 81] := n17
      exact ainstr_BEQ w h
  by_cases n18 : (nextA s).1 = [66, 46, 78, 69]
  · obtain ⟨ws, bad⟩ := s
    cases ws with
    | nil => cases n18
    | cons x ws =>
      obtain rfl : x = [66, 46, 78, 69] := n18
      exact ainstr_BNE w h
  by_cases n19 : (nextA s).1 = [67, 66, 90]
  · obtain ⟨ws, bad⟩ := s
    cases ws with
    | nil => cases n19
    | cons x ws =>
      obtain rfl : x = [67, 66, 90] := n19
      exact ainstr_CBZ w h
  by_cases n20 : (nextA s).1 = [67, 66, 78, 90]
  · obtain ⟨ws, bad⟩ := s
    cases ws with
    | nil => cases n20
    | cons x ws =>
      obtain rfl : x = [67, 66, 78, 90] := n20
      exact ainstr_CBNZ w h
  by_cases n21 : (nextA s).1 = [68, 77, 66]
  · obtain ⟨ws, bad⟩ := s
    cases ws with
    | nil => cases n21
    | cons x ws =>
      obtain rfl : x = [68, 77, 66] := n21
      exact ainstr_DMB w h
  by_cases n22 : (nextA s).1 = [68, 83, 66]
  · obtain ⟨ws, bad⟩ := s
    cases ws with
    | nil => cases n22
    | cons x ws =>
      obtain rfl : x = [68, 83, 66] := n22
      exact ainstr_DSB w h
  by_cases n23 : (nextA s).1 = [84, 76, 66, 73]
  · obtain ⟨ws, bad⟩ := s
    cases ws with
    | nil => cases n23
    | cons x ws =>
      obtain rfl : x = [84, 76, 66, 73] := n23
      exact ainstr_TLBI w h
  by_cases n24 : (nextA s).1 = [77, 82, 83]
  · obtain ⟨ws, bad⟩ := s
    cases ws with
    | nil => cases n24
    | cons x ws =>
      obtain rfl : x = [77, 82, 83] := n24
      exact ainstr_MRS w h
  have e : instrA s = (Ins.none, badA (nextA s).2 true) := by unfold instrA bodyA; simp only [n0, n1, n2, n3, n4, n5, n6, n7, n8, n9, n10, n11, n12, n13, n14, n15, n16, n17, n18, n19, n20, n21, n22, n23, n24, if_false]
  rw [e]
  exact ainstr_none w h n0 n1 n2 n3 n4 n5 n6 n7 n8 n9 n10 n11 n12 n13 n14 n15 n16 n17 n18 n19 n20 n21 n22 n23 n24
end Go.Proofs.YtcaifejfkpmeeaaGreat
