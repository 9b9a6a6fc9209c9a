/- Reading a condition: what it should be. -/
import Derived.Test.YteepoohcdmjmhaaCondMod
namespace Go.Proofs.Yteepoohcdmjmhaa
open Go.RowKit
set_option linter.unusedVariables false
set_option linter.unusedSimpArgs false

theorem CAt.kept {w w' : World} {r n : Nat} {p : Option Addr} {c : Nat} {tk : List Tk} {x : Nat} {s s' : RS} {m : Nat} (h : CAt w r n p c tk x s m) (hg : w.grownBy w' (some r)) (hb : Blk w' 67 r [.slice p n c, .int .i64 (s'.k : Nat), .int .i64 s'.code, .int .i64 s'.at_]) (hk : s'.k ≤ n) : CAt w' r n p c tk x s' m :=
  h.rd (h.2.1.kept hg hb hk) hg
theorem blk_set6 {w : World} {T : TypeId} {g : Nat} {a b c d e f : Value} (h : Blk w T g [a, b, c, d, e, f]) (x y z u v q : Value) : Blk ((((((w.setCell ⟨g, 0, none⟩ x).setCell ⟨g, 1, none⟩ y).setCell ⟨g, 2, none⟩ z).setCell ⟨g, 3, none⟩ u).setCell ⟨g, 4, none⟩ v).setCell ⟨g, 5, none⟩ q) T g [x, y, z, u, v, q] := by
  simpa using (((((h.set 0 x).set 1 y).set 2 z).set 3 u).set 4 v).set 5 q
theorem blk_other6 {w : World} {T : TypeId} {r g : Nat} {cs : List Value} (h : Blk w T r cs) (hne : r ≠ g) (x y z u v q : Value) : Blk ((((((w.setCell ⟨g, 0, none⟩ x).setCell ⟨g, 1, none⟩ y).setCell ⟨g, 2, none⟩ z).setCell ⟨g, 3, none⟩ u).setCell ⟨g, 4, none⟩ v).setCell ⟨g, 5, none⟩ q) T r cs :=
  (((((h.other (p := ⟨g, 0, none⟩) hne x).other (p := ⟨g, 1, none⟩) hne y).other (p := ⟨g, 2, none⟩) hne z).other (p := ⟨g, 3, none⟩) hne u).other (p := ⟨g, 4, none⟩) hne v).other (p := ⟨g, 5, none⟩) hne q
theorem grown_set1 {w w' : World} {row : Option Nat} {g : Nat} (h : w.grownBy w' row) (hg : w.heap.size ≤ g) (j : Nat) (u : Value) : w.grownBy (w'.setCell ⟨g, j, none⟩ u) row :=
  ⟨h.os, h.tape, h.output, by simpa using h.size, fun k hk hne => (Below.heap_setCell _ _ _ k (by simp; omega)).trans (h.block k hk hne)⟩
theorem grown_set6 {w w' : World} {row : Option Nat} {g : Nat} (h : w.grownBy w' row) (hg : w.heap.size ≤ g) (x y z u v q : Value) : w.grownBy ((((((w'.setCell ⟨g, 0, none⟩ x).setCell ⟨g, 1, none⟩ y).setCell ⟨g, 2, none⟩ z).setCell ⟨g, 3, none⟩ u).setCell ⟨g, 4, none⟩ v).setCell ⟨g, 5, none⟩ q) row :=
  grown_set1 (grown_set1 (grown_set1 (grown_set1 (grown_set1 (grown_set1 h hg 0 x) hg 1 y) hg 2 z) hg 3 u) hg 4 v) hg 5 q
def condA (k c r : Int) (a v : Nat) : Value := .agg #[.int .i64 k, .int .i64 c, .int .i64 r, .int .u64 a, .int .u64 v, .slice none 0 0]
set_option maxRecDepth 100000 in
set_option maxHeartbeats 1600000 in
theorem value_any {r n : Nat} {p : Option Addr} {c : Nat} {tk : List Tk} {x : Nat} {s : RS} {m : Nat} (w : World) (kd co rg : Int) (ad va : Nat) (h : CAt w r n p c tk x s m) :
    Calls Try.prog 56 #[.pointer (some ⟨x, 0, none⟩), condA kd co rg ad va] w fun e w' => e = .returned (condA kd co rg ad (valueR tk s).1) ∧ CAt w' r n p c tk x (valueR tk s).2 m ∧ w.grownBy w' (some r) := by
  have HV := Lib.hid (show valueR tk s = numberR tk (mustR tk s 3 ⟨#[61]⟩) from rfl)
  have HB := Lib.hid (show Below w.heap.size w ((w.alloc (.cells #[.int .i64 kd, .int .i64 co, .int .i64 rg, .int .u64 ad, .int .u64 va, .slice none 0 0] 25)).alloc (.cells #[.int .i64 0, .int .i64 0, .int .i64 0, .int .u64 0, .int .u64 0, .slice none 0 0] 25)) from below_alloc (below_alloc (Below.refl _ _) _) _)
  have HN1 := Lib.hid (show Blk ((w.alloc (.cells #[.int .i64 kd, .int .i64 co, .int .i64 rg, .int .u64 ad, .int .u64 va, .slice none 0 0] 25)).alloc (.cells #[.int .i64 0, .int .i64 0, .int .i64 0, .int .u64 0, .int .u64 0, .slice none 0 0] 25)) 25 w.heap.size [.int .i64 kd, .int .i64 co, .int .i64 rg, .int .u64 ad, .int .u64 va, .slice none 0 0] from (Blk.new w _ _).alloc _)
  have HN2 := Lib.hid (show Blk ((w.alloc (.cells #[.int .i64 kd, .int .i64 co, .int .i64 rg, .int .u64 ad, .int .u64 va, .slice none 0 0] 25)).alloc (.cells #[.int .i64 0, .int .i64 0, .int .i64 0, .int .u64 0, .int .u64 0, .slice none 0 0] 25)) 25 (w.heap.size + 1) [.int .i64 0, .int .i64 0, .int .i64 0, .int .u64 0, .int .u64 0, .slice none 0 0] from by simpa using Blk.new (w.alloc (.cells #[.int .i64 kd, .int .i64 co, .int .i64 rg, .int .u64 ad, .int .u64 va, .slice none 0 0] 25)) 25 [.int .i64 0, .int .i64 0, .int .i64 0, .int .u64 0, .int .u64 0, .slice none 0 0])
  have hC := h.below HB.out
  have HC := Lib.hid hC
  have c0 := hC.1.cell 0
  simp only [List.getElem?_cons_zero, List.getElem?_cons_succ] at c0
  have hx := h.lt
  have hrl := h.2.1.lt
  have H0 := Lib.hid h
  have HM := Lib.hid (must_any _ 3 ⟨#[61]⟩ hC.2.1)
  clear h hC
  unfold condA
  go_enter Try.func56, Try.ntmps56
  go_wp2_with fail
  refine (HM.out).mono ?_
  rintro e w2 ⟨rfl, hr, hg⟩
  have HC2 := Lib.hid (HC.out.rd hr hg)
  have hz2 : w.heap.size + 2 ≤ w2.heap.size := by have := hg.size; simpa using this
  have HN12 := Lib.hid (HN1.out.kept hg (by intro e; injection e; omega))
  have HN22 := Lib.hid (HN2.out.kept hg (by intro e; injection e; omega))
  have HG2 := Lib.hid (grown_thenR (grown_below (row := some r) HB.out) hg)
  clear hr hg HM HC HN1 HN2 HB c0
  have c0 := HC2.out.1.cell 0
  simp only [List.getElem?_cons_zero, List.getElem?_cons_succ] at c0
  have HM := Lib.hid (number_any _ HC2.out.2.1)
  rw [← HV.out] at HM
  generalize valueR tk s = vr at *
  have hx2 : x < w2.heap.size := by omega
  have hw2 : w.heap.size < w2.heap.size := by omega
  go_wp2_with fail
  refine (HM.out).mono ?_
  rintro e w3 ⟨rfl, hr, hg⟩
  have HC3 := Lib.hid (HC2.out.rd hr hg)
  have hz3 : w.heap.size + 2 ≤ w3.heap.size := by have := hg.size; omega
  have HN13 := Lib.hid (HN12.out.kept hg (by intro e; injection e; omega))
  have HN23 := Lib.hid (HN22.out.kept hg (by intro e; injection e; omega))
  have HG3 := Lib.hid (grown_thenR HG2.out hg)
  clear hr hg HM HC2 HN12 HN22 HG2 c0
  have n0 := HN13.out.cell 0
  have n1 := HN13.out.cell 1
  have n2 := HN13.out.cell 2
  have n3 := HN13.out.cell 3
  have n4 := HN13.out.cell 4
  have n5 := HN13.out.cell 5
  have nf4 := HN13.out.free 4
  simp only [List.getElem?_cons_zero, List.getElem?_cons_succ] at n0 n1 n2 n3 n4 n5
  have q0 := HN23.out.cell 0
  have q1 := HN23.out.cell 1
  have q2 := HN23.out.cell 2
  have q3 := HN23.out.cell 3
  have q4 := HN23.out.cell 4
  have q5 := HN23.out.cell 5
  have qf0 := HN23.out.free 0
  have qf1 := HN23.out.free 1
  have qf2 := HN23.out.free 2
  have qf3 := HN23.out.free 3
  have qf4 := HN23.out.free 4
  have qf5 := HN23.out.free 5
  simp only [List.getElem?_cons_zero, List.getElem?_cons_succ] at q0 q1 q2 q3 q4 q5
  have hw3 : w.heap.size < w3.heap.size := by omega
  have hw3' : w.heap.size + 1 < w3.heap.size := by omega
  go_wp2_with fail
  refine bodyPost_ret (results_cell_row rfl _ _ (w.heap.size + 1) 25 #[.int .i64 kd, .int .i64 co, .int .i64 rg, .int .u64 ad, .int .u64 vr.1, .slice none 0 0] (0, 0) _ rfl (blk_set6 (HN23.out.other (p := ⟨w.heap.size, 4, none⟩) (by simp) _) _ _ _ _ _ _) Try.underlying25 rfl (by kernel_rfl)) rfl ?_
  have hgf := grown_set6 (grown_set1 HG3.out (Nat.le_refl _) 4 (.int .u64 vr.1)) (show w.heap.size ≤ w.heap.size + 1 by omega) (.int .i64 kd) (.int .i64 co) (.int .i64 rg) (.int .u64 ad) (.int .u64 vr.1) (.slice none 0 0)
  refine ⟨?_, ?_, hgf⟩
  · rw [HV.out]; rfl
  · rw [show valueR tk s = vr from HV.out.symm]
    exact H0.out.kept hgf (blk_other6 (HC3.out.2.1.blk.other (p := ⟨w.heap.size, 4, none⟩) (by simp; omega) _) (by omega) _ _ _ _ _ _) HC3.out.2.1.2.2.2.2.1
end Go.Proofs.Yteepoohcdmjmhaa
