/- An instruction changes no register but those that it is told to set. -/
import Derived.Test.YtikflhigenijdaaRows
import Derived.Test.YtikflhigenijdaaBase
import Derived.ShutString
import Derived.ChangeOld
import Derived.Lib.SmallJoins
import Derived.Test.YtikflhigenijdaaRegsStart
import Derived.Test.YtikflhigenijdaaStartOpen
import Derived.Test.YtikflhigenijdaaRegsAwake
import Derived.Test.YtikflhigenijdaaRegsDoAny
import Derived.Test.YtikflhigenijdaaRegsTold3
import Derived.Test.YtikflhigenijdaaInstrOpen
import Derived.Test.YtikflhigenijdaaInstrAt
import Derived.Test.YtikflhigenijdaaRegsTold2
namespace Go.Proofs.Ytikflhigenijdaa.regsChange
open Go.ChangeShapes Go.WideShapes Go.ChangeAt Go.RowKit
open Go.ChangeMaps (open_string shut_string)
set_option linter.unusedVariables false
set_option linter.unusedSimpArgs false

theorem own : ownKnob Try.prog.godebug = none := by kernel_rfl
theorem laidOut : laidOutB Try.prog = true := by kernel_rfl

set_option maxRecDepth 100000 in
set_option maxHeartbeats 2000000 in
theorem walk (p : Option Addr) (zs : List Int) (cap : Nat) (same : Bool) (a b c : Int) (op d n m imm kind : Int) (w : World) (hz : zs.length ≤ 9223372036854775807) (hs : SrcAt w p zs) :
    Calls Try.prog 5 #[.agg #[.slice p zs.length cap, .bool same, .int .u64 a, .int .u64 b, .int .u64 c], instrV op d n m imm kind] w fun e w' => e = .returned (.bool true) ∧ Below w.heap.size w w' := by
  have HS := Lib.hid hs
  have HZ := Lib.hid hz
  clear hs hz
  have HA := Lib.hid ((Blk.new w 26 [.slice p zs.length cap, .bool same, .int .u64 a, .int .u64 b, .int .u64 c]).alloc (.cells #[.int .i64 op, .int .i64 d, .int .i64 n, .int .i64 m, .int .i64 imm, .int .i64 kind] 42))
  have hi0 := InstrAt.new (w.alloc (.cells #[.slice p zs.length cap, .bool same, .int .u64 a, .int .u64 b, .int .u64 c] 26)) 42 op d n m imm kind
  rw [World.size_alloc] at hi0
  have HI0 := Lib.hid hi0
  clear hi0
  go_enter Try.func5, Try.ntmps5
  go_wp2_with fail
  refine (awake_any _).mono ?_
  rintro e w1 ⟨rfl, hb1⟩
  have HA := Lib.hid (HA.out.below hb1)
  have HI0 := Lib.hid (HI0.out.below hb1)
  have HB1 := Lib.hid (below_trans (below_alloc (below_alloc (Below.refl w.heap.size w) _) _) hb1)
  clear hb1
  obtain ⟨i0, i1, i2, i3, i4, i5⟩ := HI0.out.cells
  go_wp2_with fail
  refine (right_any _ _ _ _ _ _ _).mono ?_
  rintro e w1b ⟨bb, rfl, hr, hb1⟩
  have HA := Lib.hid (HA.out.below hb1)
  have HI0 := Lib.hid (HI0.out.below hb1)
  have HB1 := Lib.hid (below_trans HB1.out hb1)
  clear hb1 i0 i1 i2 i3 i4 i5
  cases bb
  · clear hr
    go_wp2
    go_ret
    exact ⟨rfl, HB1.out⟩
  obtain ⟨hop, _, _, _, h6, _, h23, _, _⟩ := hr rfl
  have HOP := Lib.hid hop
  have H6 := Lib.hid h6
  have H23 := Lib.hid h23
  clear hr hop h6 h23
  have c0 := HA.out.cell 0
  have c1 := HA.out.cell 1
  have c2 := HA.out.cell 2
  have c3 := HA.out.cell 3
  have c4 := HA.out.cell 4
  simp only [List.getElem?_cons_zero, List.getElem?_cons_succ] at c0 c1 c2 c3 c4
  go_wp2_with fail
  refine (file_any p zs cap same a b c _ HZ.out (HS.out.below HB1.out)).mono ?_
  rintro e w2 ⟨v, q, rfl, hown, hb2⟩
  obtain ⟨v0, vc, rfl, hv0⟩ : ∃ v0 vc, v = .slice (some ⟨v0, 0, none⟩) 31 vc ∧ v0 < w2.heap.size := by
    obtain ⟨g', c', hv, _, h4, _⟩ := own_open hown (by omega)
    exact ⟨g', c', hv, h4⟩
  have HI := Lib.hid (file_size (same := same) (ofX_length zs) (sys := [a, b, c]) rfl)
  have HO := Lib.hid (one_cells (ofX zs) same [a, b, c])
  have HC := Lib.hid (show (fileCells (ofX zs) same [a, b, c]).toArray.size = 35 by rw [List.size_toArray]; exact fileCells_length (ofX_length _) rfl)
  have HB2 := Lib.hid (below_trans HB1.out hb2)
  have HI0 := Lib.hid (HI0.out.below hb2)
  clear hown hb2 HB1 HS HA c0 c1 c2 c3 c4
  generalize hcs : (fileCells (ofX zs) same [a, b, c]).toArray = cs at *
  have HCS := Lib.hid hcs
  clear hcs
  have hN1 : Blk ((w2.alloc (.cells #[.int .u64 0, .int .u64 0, .int .u64 0, .int .u64 0, .int .u64 0, .int .u64 0, .int .u64 0, .int .u64 0, .int .u64 0, .int .u64 0, .int .u64 0, .int .u64 0, .int .u64 0, .int .u64 0, .int .u64 0, .int .u64 0, .int .u64 0, .int .u64 0, .int .u64 0, .int .u64 0, .int .u64 0, .int .u64 0, .int .u64 0, .int .u64 0, .int .u64 0, .int .u64 0, .int .u64 0, .int .u64 0, .int .u64 0, .int .u64 0, .int .u64 0, .bool false, .int .u64 0, .int .u64 0, .int .u64 0] 30)).alloc (.cells #[.slice none 0 0, .bool false, .slice none 0 0] 32)) 32 (w2.heap.size + 1) [.slice none 0 0, .bool false, .slice none 0 0] := by
    have := Blk.new (w2.alloc (.cells #[.int .u64 0, .int .u64 0, .int .u64 0, .int .u64 0, .int .u64 0, .int .u64 0, .int .u64 0, .int .u64 0, .int .u64 0, .int .u64 0, .int .u64 0, .int .u64 0, .int .u64 0, .int .u64 0, .int .u64 0, .int .u64 0, .int .u64 0, .int .u64 0, .int .u64 0, .int .u64 0, .int .u64 0, .int .u64 0, .int .u64 0, .int .u64 0, .int .u64 0, .int .u64 0, .int .u64 0, .int .u64 0, .int .u64 0, .int .u64 0, .int .u64 0, .bool false, .int .u64 0, .int .u64 0, .int .u64 0] 30)) 32 [.slice none 0 0, .bool false, .slice none 0 0]
    rw [World.size_alloc] at this
    exact this
  have hN0 : Blk ((w2.alloc (.cells #[.int .u64 0, .int .u64 0, .int .u64 0, .int .u64 0, .int .u64 0, .int .u64 0, .int .u64 0, .int .u64 0, .int .u64 0, .int .u64 0, .int .u64 0, .int .u64 0, .int .u64 0, .int .u64 0, .int .u64 0, .int .u64 0, .int .u64 0, .int .u64 0, .int .u64 0, .int .u64 0, .int .u64 0, .int .u64 0, .int .u64 0, .int .u64 0, .int .u64 0, .int .u64 0, .int .u64 0, .int .u64 0, .int .u64 0, .int .u64 0, .int .u64 0, .bool false, .int .u64 0, .int .u64 0, .int .u64 0] 30)).alloc (.cells #[.slice none 0 0, .bool false, .slice none 0 0] 32)) 30 w2.heap.size zero35 := (Blk.new w2 30 zero35).alloc _
  have HN0 := Lib.hid hN0
  have HN1 := Lib.hid hN1
  clear hN0 hN1
  go_wp2_with (first | (refine wpList_store_row rfl 30 (.tmp 5) (.tmp 21) rfl w2.heap.size cs rfl rfl 30 _ HN0.out HI.out (by rw [HC.out]; rfl) HO.out ?_) | (refine wpList_store_row rfl 32 (.tmp 6) (.tmp 22) rfl (w2.heap.size + 1) #[.slice (some ⟨v0, 0, none⟩) 31 vc, .bool same, .slice q 3 3] rfl rfl 32 _ ((setRow_other _ _ _ _ (by omega)).trans HN1.out) (by kernel_rfl) rfl (by kernel_rfl) ?_) | (refine wpList_load_row rfl 30 (.tmp 5) rfl w2.heap.size rfl 30 cs (0, 0) _ ((setRow_other _ _ _ _ (by omega)).trans (setRow_heap _ _ _ _ _ _ HN0.out)) Try.underlying30 rfl HI.out ?_; have hfx : ((((w2.alloc (.cells #[.int .u64 0, .int .u64 0, .int .u64 0, .int .u64 0, .int .u64 0, .int .u64 0, .int .u64 0, .int .u64 0, .int .u64 0, .int .u64 0, .int .u64 0, .int .u64 0, .int .u64 0, .int .u64 0, .int .u64 0, .int .u64 0, .int .u64 0, .int .u64 0, .int .u64 0, .int .u64 0, .int .u64 0, .int .u64 0, .int .u64 0, .int .u64 0, .int .u64 0, .int .u64 0, .int .u64 0, .int .u64 0, .int .u64 0, .int .u64 0, .int .u64 0, .bool false, .int .u64 0, .int .u64 0, .int .u64 0] 30)).alloc (.cells #[.slice none 0 0, .bool false, .slice none 0 0] 32)).setRow w2.heap.size cs).setRow (w2.heap.size + 1) #[.slice (some ⟨v0, 0, none⟩) 31 vc, .bool same, .slice q 3 3]).heap[w2.heap.size]? = some (.cells cs 30 (0, 0)) := ((setRow_other _ _ _ _ (by omega)).trans (setRow_heap _ _ _ _ _ _ HN0.out)); have hix : InstrAt ((((w2.alloc (.cells #[.int .u64 0, .int .u64 0, .int .u64 0, .int .u64 0, .int .u64 0, .int .u64 0, .int .u64 0, .int .u64 0, .int .u64 0, .int .u64 0, .int .u64 0, .int .u64 0, .int .u64 0, .int .u64 0, .int .u64 0, .int .u64 0, .int .u64 0, .int .u64 0, .int .u64 0, .int .u64 0, .int .u64 0, .int .u64 0, .int .u64 0, .int .u64 0, .int .u64 0, .int .u64 0, .int .u64 0, .int .u64 0, .int .u64 0, .int .u64 0, .int .u64 0, .bool false, .int .u64 0, .int .u64 0, .int .u64 0] 30)).alloc (.cells #[.slice none 0 0, .bool false, .slice none 0 0] 32)).setRow w2.heap.size cs).setRow (w2.heap.size + 1) #[.slice (some ⟨v0, 0, none⟩) 31 vc, .bool same, .slice q 3 3]) 42 (w.heap.size + 1) op d n m imm kind := HI0.out.below (below_setRow (below_setRow (below_alloc (below_alloc (Below.refl _ _) _) _) (Nat.le_refl _) _) (by omega) _); have hbx : Below w.heap.size w ((((w2.alloc (.cells #[.int .u64 0, .int .u64 0, .int .u64 0, .int .u64 0, .int .u64 0, .int .u64 0, .int .u64 0, .int .u64 0, .int .u64 0, .int .u64 0, .int .u64 0, .int .u64 0, .int .u64 0, .int .u64 0, .int .u64 0, .int .u64 0, .int .u64 0, .int .u64 0, .int .u64 0, .int .u64 0, .int .u64 0, .int .u64 0, .int .u64 0, .int .u64 0, .int .u64 0, .int .u64 0, .int .u64 0, .int .u64 0, .int .u64 0, .int .u64 0, .int .u64 0, .bool false, .int .u64 0, .int .u64 0, .int .u64 0] 30)).alloc (.cells #[.slice none 0 0, .bool false, .slice none 0 0] 32)).setRow w2.heap.size cs).setRow (w2.heap.size + 1) #[.slice (some ⟨v0, 0, none⟩) 31 vc, .bool same, .slice q 3 3]) := below_setRow (below_setRow (below_alloc (below_alloc HB2.out _) _) HB2.out.size _) (by have := HB2.out.size; omega) _; have hgs : w2.heap.size + 1 < ((((w2.alloc (.cells #[.int .u64 0, .int .u64 0, .int .u64 0, .int .u64 0, .int .u64 0, .int .u64 0, .int .u64 0, .int .u64 0, .int .u64 0, .int .u64 0, .int .u64 0, .int .u64 0, .int .u64 0, .int .u64 0, .int .u64 0, .int .u64 0, .int .u64 0, .int .u64 0, .int .u64 0, .int .u64 0, .int .u64 0, .int .u64 0, .int .u64 0, .int .u64 0, .int .u64 0, .int .u64 0, .int .u64 0, .int .u64 0, .int .u64 0, .int .u64 0, .int .u64 0, .bool false, .int .u64 0, .int .u64 0, .int .u64 0] 30)).alloc (.cells #[.slice none 0 0, .bool false, .slice none 0 0] 32)).setRow w2.heap.size cs).setRow (w2.heap.size + 1) #[.slice (some ⟨v0, 0, none⟩) 31 vc, .bool same, .slice q 3 3]).heap.size := (by simp); generalize ((((w2.alloc (.cells #[.int .u64 0, .int .u64 0, .int .u64 0, .int .u64 0, .int .u64 0, .int .u64 0, .int .u64 0, .int .u64 0, .int .u64 0, .int .u64 0, .int .u64 0, .int .u64 0, .int .u64 0, .int .u64 0, .int .u64 0, .int .u64 0, .int .u64 0, .int .u64 0, .int .u64 0, .int .u64 0, .int .u64 0, .int .u64 0, .int .u64 0, .int .u64 0, .int .u64 0, .int .u64 0, .int .u64 0, .int .u64 0, .int .u64 0, .int .u64 0, .int .u64 0, .bool false, .int .u64 0, .int .u64 0, .int .u64 0] 30)).alloc (.cells #[.slice none 0 0, .bool false, .slice none 0 0] 32)).setRow w2.heap.size cs).setRow (w2.heap.size + 1) #[.slice (some ⟨v0, 0, none⟩) 31 vc, .bool same, .slice q 3 3]) = w3 at *; have hgw : w.heap.size ≤ w2.heap.size := HB2.out.size; generalize w2.heap.size = g at *; have FX := Lib.hid hfx; have IX := Lib.hid hix; have BX := Lib.hid hbx; clear hfx hix hbx HN0 HN1 HI0 HB2) | (refine wpList_store_row rfl 30 (.tmp 7) (.tmp 23) rfl w3.heap.size cs rfl rfl 30 _ (heap_alloc_new w3 _) HI.out (by rw [HC.out]; rfl) HO.out ?_; have GX := Lib.hid (FileAt.stored (w1 := w3) (T := 30 ) (Z := #[.int .u64 0, .int .u64 0, .int .u64 0, .int .u64 0, .int .u64 0, .int .u64 0, .int .u64 0, .int .u64 0, .int .u64 0, .int .u64 0, .int .u64 0, .int .u64 0, .int .u64 0, .int .u64 0, .int .u64 0, .int .u64 0, .int .u64 0, .int .u64 0, .int .u64 0, .int .u64 0, .int .u64 0, .int .u64 0, .int .u64 0, .int .u64 0, .int .u64 0, .int .u64 0, .int .u64 0, .int .u64 0, .int .u64 0, .int .u64 0, .int .u64 0, .bool false, .int .u64 0, .int .u64 0, .int .u64 0]) HCS.out (ofX_length zs) (sys := [a, b, c]) rfl); have FX := Lib.hid (show FileAt ((w3.alloc (.cells #[.int .u64 0, .int .u64 0, .int .u64 0, .int .u64 0, .int .u64 0, .int .u64 0, .int .u64 0, .int .u64 0, .int .u64 0, .int .u64 0, .int .u64 0, .int .u64 0, .int .u64 0, .int .u64 0, .int .u64 0, .int .u64 0, .int .u64 0, .int .u64 0, .int .u64 0, .int .u64 0, .int .u64 0, .int .u64 0, .int .u64 0, .int .u64 0, .int .u64 0, .int .u64 0, .int .u64 0, .int .u64 0, .int .u64 0, .int .u64 0, .int .u64 0, .bool false, .int .u64 0, .int .u64 0, .int .u64 0] 30)).setRow w3.heap.size cs) 30 g (ofX zs) same [a, b, c] from ⟨by rw [HCS.out]; exact (setRow_other _ _ _ _ (by omega)).trans ((Below.heap_alloc _ _ _ (by omega)).trans FX.out), ofX_length zs, rfl⟩); have hb4 := below_stored (below_trans (Below.refl w3.heap.size w3) (Below.refl w3.heap.size w3)) (.cells #[.int .u64 0, .int .u64 0, .int .u64 0, .int .u64 0, .int .u64 0, .int .u64 0, .int .u64 0, .int .u64 0, .int .u64 0, .int .u64 0, .int .u64 0, .int .u64 0, .int .u64 0, .int .u64 0, .int .u64 0, .int .u64 0, .int .u64 0, .int .u64 0, .int .u64 0, .int .u64 0, .int .u64 0, .int .u64 0, .int .u64 0, .int .u64 0, .int .u64 0, .int .u64 0, .int .u64 0, .int .u64 0, .int .u64 0, .int .u64 0, .int .u64 0, .bool false, .int .u64 0, .int .u64 0, .int .u64 0] 30) cs; have IX := Lib.hid (IX.out.below hb4); have BX := Lib.hid (below_trans BX.out hb4); have hg4 : w3.heap.size < ((w3.alloc (.cells #[.int .u64 0, .int .u64 0, .int .u64 0, .int .u64 0, .int .u64 0, .int .u64 0, .int .u64 0, .int .u64 0, .int .u64 0, .int .u64 0, .int .u64 0, .int .u64 0, .int .u64 0, .int .u64 0, .int .u64 0, .int .u64 0, .int .u64 0, .int .u64 0, .int .u64 0, .int .u64 0, .int .u64 0, .int .u64 0, .int .u64 0, .int .u64 0, .int .u64 0, .int .u64 0, .int .u64 0, .int .u64 0, .int .u64 0, .int .u64 0, .int .u64 0, .bool false, .int .u64 0, .int .u64 0, .int .u64 0] 30)).setRow w3.heap.size cs).heap.size := (by simp); clear hb4; generalize ((w3.alloc (.cells #[.int .u64 0, .int .u64 0, .int .u64 0, .int .u64 0, .int .u64 0, .int .u64 0, .int .u64 0, .int .u64 0, .int .u64 0, .int .u64 0, .int .u64 0, .int .u64 0, .int .u64 0, .int .u64 0, .int .u64 0, .int .u64 0, .int .u64 0, .int .u64 0, .int .u64 0, .int .u64 0, .int .u64 0, .int .u64 0, .int .u64 0, .int .u64 0, .int .u64 0, .int .u64 0, .int .u64 0, .int .u64 0, .int .u64 0, .int .u64 0, .int .u64 0, .bool false, .int .u64 0, .int .u64 0, .int .u64 0] 30)).setRow w3.heap.size cs) = w4 at *; generalize w3.heap.size = g4 at *; obtain ⟨i0, i1, i2, i3, i4, i5⟩ := IX.out.cells))
  refine (do_any g4 op d n m imm kind HOP.out H6.out H23.out _ GX.out).mono ?_
  rintro e w5 ⟨rfl, hf5, hg5⟩
  have FX := Lib.hid (FX.out.kept hg5 (by simp; omega))
  have IX := Lib.hid (IX.out.kept hg5 (by simp; omega))
  have BX := Lib.hid (BX.out.grown hg5 BX.out.size (fun k hk => by injection hk with hk; omega))
  have GX := Lib.hid hf5
  clear hf5 hg5 i0 i1 i2 i3 i4 i5
  obtain ⟨i0, i1, i2, i3, i4, i5⟩ := IX.out.cells
  go_wp2_with fail
  refine (sets_any op d n m imm kind _ HOP.out).mono ?_
  rintro e w6 ⟨v, rfl, hl, hb6⟩
  have FX := Lib.hid (FX.out.below hb6)
  have GX := Lib.hid (GX.out.below hb6)
  have BX := Lib.hid (below_trans BX.out hb6)
  have HLL := setsL_len op d
  have HK := Lib.hid (fun k hk => doX_kept op d n m imm kind [a, b, c] (ofX zs) k HOP.out hk)
  have HKS := Lib.hid (doS_kept op d n m (ofX zs) same)
  clear hb6 i0 i1 i2 i3 i4 i5
  generalize setsL op d = l at *
  generalize doX op d n m imm kind [a, b, c] (ofX zs) = x' at *
  generalize doS op n m (ofX zs) same = same' at *
  obtain ⟨p2, c2, rfl⟩ : ∃ p2 c2, v = .slice p2 l.length c2 := by
    obtain ⟨_, ⟨h1, h0⟩ | ⟨g', off, c', hv, _⟩⟩ := hl
    · exact ⟨none, 0, by rw [h0]; exact h1⟩
    · exact ⟨_, _, hv⟩
  have HL := Lib.hid (fun j (hj : j < l.length) => show ∃ g' off, p2 = some ⟨g', off, none⟩ ∧ w6.cell? ⟨g', off + j, none⟩ = some (.int .i64 (l.getD j 0)) from by
    obtain ⟨_, ⟨_, h0⟩ | ⟨g', off, c', hv, _, _, hc⟩⟩ := hl
    · omega
    · injection hv with e1 e2 e3
      exact ⟨g', off, e1, by rw [hc j hj, intsZ_at _ _ hj]⟩)
  clear hl
  have fl1 := FX.out.flag
  have fl2 := GX.out.flag
  go_wp2_with fail
  go_loopw [9, 10] (fun f i wr => ∃ k mm : Nat, ∃ b : Bool, k ≤ 31 ∧ i = .int .i64 k ∧ f = .bool b ∧ wr = w6.drewN mm ∧ (0 < k → b = false → (32 : Int) ∉ l)) (fun _ i _ => 31 - (intOf i).toNat)
  case atStart => exact ⟨0, 0, false, by omega, rfl, rfl, rfl, fun h => by omega⟩
  case round =>
    obtain ⟨k, mm, bf, hk, rfl, rfl, rfl, hfl⟩ := hrel
    have HFL := Lib.hid hfl
    clear hfl
    by_cases hlt : k < 31
    · have hk0 : (0 : Int) ≤ k := by omega
      have hk31 : (k : Int) < 31 := by omega
      go_wp2_with fail
      go_loop [9, 11, 12] (fun f s i => ∃ j : Nat, ∃ bs b2 : Bool, j ≤ l.length ∧ i = .int .i64 j ∧ s = .bool bs ∧ f = .bool b2 ∧ NotTo k l j bs ∧ NotTo 32 l j b2) (fun _ _ i => l.length - (intOf i).toNat)
      case atStart => exact ⟨0, false, bf, by omega, rfl, rfl, rfl, NotTo.zero, NotTo.zero⟩
      case round =>
        obtain ⟨j, bs, b2, hj, rfl, rfl, rfl, hs, hf⟩ := hrel
        have HNS := Lib.hid hs
        have HNF := Lib.hid hf
        clear hs hf
        by_cases hjl : j < l.length
        · obtain ⟨g', off, rfl, hcell⟩ := HL.out j hjl
          have HS1 : Hid (bs = false → NotTo k l (j + 1) (l.getD j 0 == k)) := Lib.hid (fun e => by subst e; exact HNS.out.step hjl)
          have HF1 : Hid (b2 = false → NotTo 32 l (j + 1) (l.getD j 0 == 32)) := Lib.hid (fun e => by subst e; exact HNF.out.step hjl)
          clear HNS HNF
          generalize l.getD j 0 = y at *
          cases bs <;> cases b2 <;> cases e1 : (y == (k : Int)) <;> cases e2 : (y == 32)
          all_goals
            go_wp2
            go_round
            case rel => exact ⟨j + 1, _, _, by omega, by go_num, rfl, rfl, by first | exact NotTo.yes | exact e1 ▸ HS1.out rfl, by first | exact NotTo.yes | exact e2 ▸ HF1.out rfl⟩
            case measure => simp [intOf]; omega
        · obtain rfl : j = l.length := by omega
          have HF2 := Lib.hid (fun (_ : 0 < k + 1) => HNF.out.all)
          cases bs
          · have hg1 := fget_any g4 (k : Int) (w6.drewN mm) (show FileAt (w6.drewN mm) 30 g4 x' same' [a, b, c] from GX.out)
            rw [HK.out k (HNS.out.all rfl)] at hg1
            have HG1 := Lib.hid hg1
            clear hg1 HNF HNS hjl
            go_wp2_with fail
            refine HG1.out.mono ?_
            rintro e w7 ⟨rfl, m7, rfl⟩
            go_wp2_with fail
            refine (fget_any g (k : Int) _ (show FileAt (w6.drewN (mm + m7)) 30 g (ofX zs) same [a, b, c] from FX.out)).mono ?_
            rintro e w8 ⟨rfl, m8, rfl⟩
            go_wp2_with fail
            go_roundw
            case rel => exact ⟨k + 1, mm + m7 + m8, b2, by omega, by go_num, rfl, rfl, HF2.out⟩
            case measure => simp [intOf]; omega
          · clear HNF HNS hjl
            go_wp2_with fail
            go_roundw
            case rel => exact ⟨k + 1, mm, b2, by omega, by go_num, rfl, rfl, HF2.out⟩
            case measure => simp [intOf]; omega
    · obtain rfl : k = 31 := by omega
      clear hlt hk
      cases bf
      · have hsame := HKS.out (HFL.out (by omega) rfl)
        rw [hsame] at fl2
        go_wp2
        go_ret
        exact ⟨rfl, below_drewN BX.out _⟩
      · go_wp2
        go_ret
        exact ⟨rfl, below_drewN BX.out _⟩

set_option maxRecDepth 100000 in
theorem lifted (os : Os) (started : os.Started) (H : Type) (enc : TypeId × Value → H) :
    ReturnsInHanded {} Try.checked os 5 .any (Rows.regsChangeSpec.pre6 enc Try.prog Try.f5 Rows.regsChangeRow.domain false) (Rows.regsChangeSpec.post enc Try.prog Try.f5 false true false false) := by
  refine returnsInHanded_of_change (C := Try.checked) own started (by kernel_rfl) Try.func5
    (ChangeSpec.witness6 (enc := enc) (C := Try.checked) false ⟨#[], #[.agg #[.slice none 0 0, .bool false, .int .u64 0, .int .u64 0, .int .u64 0], .agg #[.int .i64 0, .int .i64 0, .int .i64 0, .int .i64 0, .int .i64 0, .int .i64 0]], []⟩ 8 (by kernel_rfl) (by kernel_rfl) (by kernel_rfl) (by kernel_rfl)) ?_
  intro W base args ds gs before hval0 hW hcnd _
  have hval : ∀ (j : Nat) t v, Try.f5.params[j]? = some t → args[j]? = some v → Value.okWide Try.prog W .any base t v := hval0
  have hW' := hW
  obtain ⟨p, q, hA0, hV, rfl, hfz, hnd⟩ := hW
  have hA : DataW.TrodAll enc Try.prog W 0 (fun _ => true) true Try.f5.params.toList args.toList ds p := hA0
  rw [Try.params5] at hA hval
  obtain ⟨v0, vs0, d0, ds0, p0, q0, hargs, rfl, rfl, h0, r0⟩ := trodAll_cons hA
  obtain ⟨v1, vs1, d1, ds1, p1, q1, rfl, rfl, rfl, h1, r1⟩ := trodAll_cons r0
  obtain ⟨rfl, rfl, rfl⟩ := trodAll_nil r1
  obtain rfl : args = #[v0, v1] := by cases args; simp_all
  obtain ⟨rfl, rfl⟩ := trodVars_none hV
  have k0 := h0
  have lt0 : ∀ x ∈ p0, x.block < W.heap.size := by obtain ⟨m, hm⟩ := k0; exact DataW.trod_lt m _ _ _ hm
  obtain ⟨xp0, xz0, xc0, xs0, xa0, xb0, xd0, rfl, hz0, hs0⟩ := open_start (hval 0 26 v0 rfl rfl) h0
  have k1 := h1
  have lt1 : ∀ x ∈ p1, x.block < W.heap.size := by obtain ⟨m, hm⟩ := k1; exact DataW.trod_lt m _ _ _ hm
  obtain ⟨o1, x1, n1, m1, y1, c1, rfl, wz1⟩ := open_instr (hval 1 42 v1 rfl rfl) h1
  clear hA0 hval0
  refine (walk xp0 xz0 xc0 xs0 xa0 xb0 xd0 o1 x1 n1 m1 y1 c1 W hz0 hs0).mono fun e W' ⟨he, bel⟩ => ?_
  subst he
  exact ⟨_, rfl, _, _, _, [], _, [], hW', trodAll_mk1 (shut_bool Try.underlying4 _), (trodAll_cons_mk (Below.trod laidOut (by kernel_rfl) (of_decide_eq_true (by kernel_rfl)) k0 bel lt0) (trodAll_cons_mk (Below.trod laidOut (by kernel_rfl) (of_decide_eq_true (by kernel_rfl)) k1 bel lt1) trodAll_mk0)), rfl, bel.frame _, fun h => by cases h⟩

theorem over : Rows.regsChangeRow.holds Try.pinned (OpenSpec.ofChange Rows.regsChangeSpec) :=
  OpenClaim.holds_of_wide 5 Try.f5 rfl rfl rfl rfl rfl rfl rfl ⟨rfl, rfl, rfl, rfl, rfl⟩ rfl rfl rfl rfl rfl (by kernel_rfl) Try.func5 (by kernel_rfl)
    (of_decide_eq_true (by kernel_rfl)) (by unfold Func.isWrapper; first | (rw [if_pos (by decide +kernel)]; kernel_rfl) | (rw [if_neg (by decide +kernel)]; exact ⟨rfl, rfl⟩))
    (fun os started H enc _ => lifted os started H enc)

theorem proved : Rows.RegsChangeSaid := over
#print axioms proved
end Go.Proofs.Ytikflhigenijdaa.regsChange
