/- Reading a condition: the whole of it. -/
import Derived.Test.YteepoohcdmjmhaaCondBoth
namespace Go.Proofs.Yteepoohcdmjmhaa
open Go.RowKit
set_option linter.unusedVariables false
set_option linter.unusedSimpArgs false

theorem G2.grown {r x : Nat} {w w1 w' : World} (hg : G2 r x w1 w') (hb : Below w.heap.size w w1) (hx : w.heap.size ≤ x) : w.grownBy w' (some r) :=
  ⟨hg.os.trans hb.os, hg.tape.trans hb.tape, hg.output.trans hb.output, Nat.le_trans hb.size hg.size, fun i hi hne => (hg.block i (Nat.lt_of_lt_of_le hi hb.size) (fun e => hne (by rw [e])) (by omega)).trans (hb.block i hi)⟩
def parseC (tk : List Tk) (s : RS) : CT × RS := ((parseF tk (4 * tk.length + 3) .either s 0).1, endR tk (parseF tk (4 * tk.length + 3) .either s 0).2.1)
set_option maxRecDepth 100000 in
set_option maxHeartbeats 3200000 in
theorem cparse_any {r n : Nat} {p : Option Addr} {c : Nat} {tk : List Tk} {s : RS} (w : World) (h : RdrAt w r n p c tk s) (hpw : ∀ a, p = some a → a.block < w.heap.size) :
    Calls Try.prog 15 #[.pointer (some ⟨r, 0, none⟩)] w fun e w' => ∃ cs : List Value, e = .returned (.agg cs.toArray) ∧ CT.At w' (fun g => w.heap.size ≤ g) (parseC tk s).1 cs ∧ RdrAt w' r n p c tk (parseC tk s).2 ∧ w.grownBy w' (some r) := by
  have hlen := h.2.2.1
  have HB := Lib.hid (show Below w.heap.size w ((w.alloc (.cells #[.int .i64 0, .int .i64 0, .int .i64 0, .int .u64 0, .int .u64 0, .slice none 0 0] 25)).alloc (.cells #[.pointer (some ⟨r, 0, none⟩), .int .i64 0] 70)) from below_alloc (below_alloc (Below.refl _ _) _) _)
  have hrl := h.lt
  have hC : CAt ((w.alloc (.cells #[.int .i64 0, .int .i64 0, .int .i64 0, .int .u64 0, .int .u64 0, .slice none 0 0] 25)).alloc (.cells #[.pointer (some ⟨r, 0, none⟩), .int .i64 0] 70)) r n p c tk (w.heap.size + 1) s 0 := by
    refine ⟨?_, h.below HB.out, by omega, fun a ha => by have := hpw a ha; omega⟩
    simpa using Blk.new (w.alloc (.cells #[.int .i64 0, .int .i64 0, .int .i64 0, .int .u64 0, .int .u64 0, .slice none 0 0] 25)) 70 [.pointer (some ⟨r, 0, none⟩), .int .i64 0]
  have HZ := Lib.hid (show Blk ((w.alloc (.cells #[.int .i64 0, .int .i64 0, .int .i64 0, .int .u64 0, .int .u64 0, .slice none 0 0] 25)).alloc (.cells #[.pointer (some ⟨r, 0, none⟩), .int .i64 0] 70)) 25 w.heap.size [.int .i64 0, .int .i64 0, .int .i64 0, .int .u64 0, .int .u64 0, .slice none 0 0] from (Blk.new w _ _).alloc _)
  have H0 := Lib.hid h
  have HP := Lib.hid (show parseC tk s = ((parseF tk (4 * tk.length + 3) .either s 0).1, endR tk (parseF tk (4 * tk.length + 3) .either s 0).2.1) from rfl)
  have HC := Lib.hid ((pok_all tk (4 * tk.length + 3)).2.2 _ r n p c (w.heap.size + 1) s 0 hC ⟨by omega, fun _ => by omega⟩ (by omega))
  clear h hC
  generalize parseF tk (4 * tk.length + 3) .either s 0 = y at *
  obtain ⟨Y, hY⟩ : ∃ Y, Y = parseC tk s := ⟨_, rfl⟩
  rw [← hY] at HP ⊢
  clear hY
  go_enter Try.func15, Try.ntmps15
  go_wp2_with fail
  refine (HC.out).mono ?_
  rintro e w2 ⟨cs, rfl, ht, hc, hg⟩
  obtain ⟨k1, co1, rg1, ad1, va1, p1, l1, cp1, rfl⟩ := ht.cells
  have hz2 : w.heap.size + 2 ≤ w2.heap.size := by have := hg.size; simpa using this
  have HZ2 := Lib.hid (HZ.out.g2 hg (by omega) (by omega))
  have HG2 := Lib.hid (hg.grown HB.out (by omega))
  have HB3 := Lib.hid (show Below w2.heap.size w2 (w2.alloc (.cells #[.int .i64 k1, .int .i64 co1, .int .i64 rg1, .int .u64 ad1, .int .u64 va1, .slice p1 l1 cp1] 25)) from below_alloc (Below.refl _ _) _)
  have HN := Lib.hid (show Blk (w2.alloc (.cells #[.int .i64 k1, .int .i64 co1, .int .i64 rg1, .int .u64 ad1, .int .u64 va1, .slice p1 l1 cp1] 25)) 25 w2.heap.size [.int .i64 k1, .int .i64 co1, .int .i64 rg1, .int .u64 ad1, .int .u64 va1, .slice p1 l1 cp1] from Blk.new _ _ _)
  have HT := Lib.hid (ht.sub (S' := fun g => w.heap.size < g) (fun g hg1 hg2 => by simp at hg1; omega))
  have HC2 := Lib.hid hc
  have HE := Lib.hid (end_any _ (hc.below HB3.out).2.1)
  clear hc hg ht HC HZ HB
  have c0 : w2.cell? ⟨w.heap.size + 1, 0, none⟩ = some (.pointer (some ⟨r, 0, none⟩)) := HC2.out.1.cell 0
  have hx2 : w.heap.size + 1 < w2.heap.size := by omega
  go_wp2_with fail
  refine (HE.out).mono ?_
  rintro e w3 ⟨rfl, hr, hg⟩
  have hz3 : w2.heap.size < w3.heap.size := by have := hg.size; simp at this; omega
  have HN3 := Lib.hid (HN.out.kept hg (by intro e; injection e; omega))
  have HZ3 := Lib.hid ((HZ2.out.below HB3.out).kept hg (by intro e; injection e; omega))
  have HR3 := Lib.hid hr
  have HT3 := Lib.hid ((HT.out.below HB3.out).g2 (G2.ofR (x := r) hg) (by omega) (by omega))
  have HG3 := Lib.hid (grown_thenR (grown_thenR HG2.out (grown_below HB3.out)) hg)
  clear hr hg HE HC2 HZ2 HN HT HB3 c0 hx2
  obtain ⟨n0, n1, n2, n3, n4, n5⟩ := blk_cells6 HN3.out
  obtain ⟨z0, z1, z2, z3, z4, z5⟩ := blk_cells6 HZ3.out
  have y0 := HZ3.out.free 0
  have y1 := HZ3.out.free 1
  have y2 := HZ3.out.free 2
  have y3 := HZ3.out.free 3
  have y4 := HZ3.out.free 4
  have y5 := HZ3.out.free 5
  have hzw : w.heap.size < w3.heap.size := by omega
  go_wp2_with fail
  have hB := blk_set6 HZ3.out (.int .i64 k1) (.int .i64 co1) (.int .i64 rg1) (.int .u64 ad1) (.int .u64 va1) (.slice p1 l1 cp1)
  have hF := ((((((Far.refl w.heap.size w3).set 0 (.int .i64 k1)).set 1 (.int .i64 co1)).set 2 (.int .i64 rg1)).set 3 (.int .u64 ad1)).set 4 (.int .u64 va1)).set 5 (.slice p1 l1 cp1)
  have hG := grown_set6 HG3.out (Nat.le_refl _) (.int .i64 k1) (.int .i64 co1) (.int .i64 rg1) (.int .u64 ad1) (.int .u64 va1) (.slice p1 l1 cp1)
  generalize ((((((w3.setCell ⟨w.heap.size, 0, none⟩ (.int .i64 k1)).setCell ⟨w.heap.size, 1, none⟩ (.int .i64 co1)).setCell ⟨w.heap.size, 2, none⟩ (.int .i64 rg1)).setCell ⟨w.heap.size, 3, none⟩ (.int .u64 ad1)).setCell ⟨w.heap.size, 4, none⟩ (.int .u64 va1)).setCell ⟨w.heap.size, 5, none⟩ (.slice p1 l1 cp1)) = W at *
  refine bodyPost_ret (results_cell_row rfl _ _ w.heap.size 25 #[.int .i64 k1, .int .i64 co1, .int .i64 rg1, .int .u64 ad1, .int .u64 va1, .slice p1 l1 cp1] (0, 0) _ rfl hB Try.underlying25 rfl (by kernel_rfl)) rfl ⟨cells6 k1 co1 rg1 ad1 va1 (.slice p1 l1 cp1), rfl, ?_, ?_, hG⟩
  · rw [HP.out]
    refine CT.At.sub (S := fun g => w.heap.size < g) (fun g hg _ => Nat.le_of_lt hg) _ _ (CT.At.keep (fun a v hB hc => ?_) _ _ HT3.out)
    exact (World.cell?_of_block (hF.block a.block (by omega))).trans hc
  · rw [HP.out]
    exact H0.out.kept hG ((hF.block r (by omega)).trans HR3.out.1) HR3.out.2.2.2.2.1
end Go.Proofs.Yteepoohcdmjmhaa
