/- What an instruction sets hangs on nothing but the registers that it is told to take. -/
import Derived.Test.YtikflhigenijdaaRows
import Derived.Test.YtikflhigenijdaaBase
import Derived.ShutString
import Derived.ChangeOld
import Derived.Lib.SmallJoins
import Derived.Test.YtikflhigenijdaaRegsStart
import Derived.Test.YtikflhigenijdaaStartOpen
import Derived.Test.YtikflhigenijdaaRegsAwake
import Derived.Test.YtikflhigenijdaaRegsHangPlain
import Derived.Test.YtikflhigenijdaaRegsTold3
import Derived.Test.YtikflhigenijdaaInstrOpen
import Derived.Test.YtikflhigenijdaaInstrAt
import Derived.Test.YtikflhigenijdaaRegsTold2
import Derived.Test.YtikflhigenijdaaRegsAccess
import Derived.Deep.RegionHeld
namespace Go.Proofs.Ytikflhigenijdaa.regsHang
open Go.ChangeShapes Go.WideShapes Go.ChangeAt Go.RowKit
open Go.ChangeMaps (open_string shut_string)
set_option linter.unusedVariables false
set_option linter.unusedSimpArgs false

theorem own : ownKnob Try.prog.godebug = none := by kernel_rfl
theorem laidOut : laidOutB Try.prog = true := by kernel_rfl

set_option maxRecDepth 100000 in
set_option maxHeartbeats 10000000 in
theorem walk (p : Option Addr) (zs : List Int) (cap : Nat) (same : Bool) (a b c : Int) (p' : Option Addr) (zs' : List Int) (cap' : Nat) (same' : Bool) (a' b' c' : Int) (op d n m imm kind : Int) (w : World) (hz : zs.length ≤ 9223372036854775807) (hs : SrcAt w p zs) (hz' : zs'.length ≤ 9223372036854775807) (hs' : SrcAt w p' zs') :
    Calls Try.prog 6 #[.agg #[.slice p zs.length cap, .bool same, .int .u64 a, .int .u64 b, .int .u64 c], .agg #[.slice p' zs'.length cap', .bool same', .int .u64 a', .int .u64 b', .int .u64 c'], instrV op d n m imm kind] w fun e w' => e = .returned (.bool true) ∧ Below w.heap.size w w' := by
  have HS := Lib.hid hs
  have HZ := Lib.hid hz
  have HS' := Lib.hid hs'
  have HZ' := Lib.hid hz'
  clear hs hz hs' hz'
  have HA := Lib.hid (((Blk.new w 26 [.slice p zs.length cap, .bool same, .int .u64 a, .int .u64 b, .int .u64 c]).alloc (.cells #[.slice p' zs'.length cap', .bool same', .int .u64 a', .int .u64 b', .int .u64 c'] 26)).alloc (.cells #[.int .i64 op, .int .i64 d, .int .i64 n, .int .i64 m, .int .i64 imm, .int .i64 kind] 42))
  have hA' : Blk (((w.alloc (.cells #[.slice p zs.length cap, .bool same, .int .u64 a, .int .u64 b, .int .u64 c] 26)).alloc (.cells #[.slice p' zs'.length cap', .bool same', .int .u64 a', .int .u64 b', .int .u64 c'] 26)).alloc (.cells #[.int .i64 op, .int .i64 d, .int .i64 n, .int .i64 m, .int .i64 imm, .int .i64 kind] 42)) 26 (w.heap.size + 1) [.slice p' zs'.length cap', .bool same', .int .u64 a', .int .u64 b', .int .u64 c'] := by
    have := (Blk.new (w.alloc (.cells #[.slice p zs.length cap, .bool same, .int .u64 a, .int .u64 b, .int .u64 c] 26)) 26 [.slice p' zs'.length cap', .bool same', .int .u64 a', .int .u64 b', .int .u64 c']).alloc (.cells #[.int .i64 op, .int .i64 d, .int .i64 n, .int .i64 m, .int .i64 imm, .int .i64 kind] 42)
    rw [World.size_alloc] at this
    exact this
  have hi0 := InstrAt.new ((w.alloc (.cells #[.slice p zs.length cap, .bool same, .int .u64 a, .int .u64 b, .int .u64 c] 26)).alloc (.cells #[.slice p' zs'.length cap', .bool same', .int .u64 a', .int .u64 b', .int .u64 c'] 26)) 42 op d n m imm kind
  rw [World.size_alloc, World.size_alloc] at hi0
  have HA' := Lib.hid hA'
  have HI0 := Lib.hid hi0
  clear hi0 hA'
  go_enter Try.func6, Try.ntmps6
  go_wp2_with fail
  refine (awake_any _).mono ?_
  rintro e w1 ⟨rfl, hb1⟩
  have HA := Lib.hid (HA.out.below hb1)
  have HA' := Lib.hid (HA'.out.below hb1)
  have HI0 := Lib.hid (HI0.out.below hb1)
  have HB1 := Lib.hid (below_trans (below_alloc (below_alloc (below_alloc (Below.refl w.heap.size w) _) _) _) hb1)
  clear hb1
  obtain ⟨i0, i1, i2, i3, i4, i5⟩ := HI0.out.cells
  go_wp2_with fail
  refine (right_any _ _ _ _ _ _ _).mono ?_
  rintro e w1b ⟨bb, rfl, hr, hb1⟩
  have HA := Lib.hid (HA.out.below hb1)
  have HA' := Lib.hid (HA'.out.below hb1)
  have HI0 := Lib.hid (HI0.out.below hb1)
  have HB1 := Lib.hid (below_trans HB1.out hb1)
  clear hb1 i0 i1 i2 i3 i4 i5
  cases bb
  · clear hr
    go_wp2
    go_ret
    exact ⟨rfl, HB1.out⟩
  obtain ⟨hop, hd, hn, hm, h6, _, h23, _, _⟩ := hr rfl
  have HOP := Lib.hid hop
  have H6 := Lib.hid h6
  have H23 := Lib.hid h23
  have HD := Lib.hid hd
  have HN := Lib.hid hn
  have HM := Lib.hid hm
  clear hr hop h6 h23 hd hn hm
  obtain ⟨i0, i1, i2, i3, i4, i5⟩ := HI0.out.cells
  go_wp2_with fail
  refine (access_any _ _ _ _ _ _ _).mono ?_
  rintro e w1c ⟨rfl, hb1⟩
  have HA := Lib.hid (HA.out.below hb1)
  have HA' := Lib.hid (HA'.out.below hb1)
  have HI0 := Lib.hid (HI0.out.below hb1)
  have HB1 := Lib.hid (below_trans HB1.out hb1)
  clear hb1 i0 i1 i2 i3 i4 i5
  cases hacc : (loadB op || storeB op)
  case true =>
    go_wp2
    go_ret
    exact ⟨rfl, HB1.out⟩
  have HACC := Lib.hid (show loadB op = false by simp only [Bool.or_eq_false_iff] at hacc; exact hacc.1)
  clear hacc
  have c0 := HA.out.cell 0
  have c1 := HA.out.cell 1
  have c2 := HA.out.cell 2
  have c3 := HA.out.cell 3
  have c4 := HA.out.cell 4
  simp only [List.getElem?_cons_zero, List.getElem?_cons_succ] at c0 c1 c2 c3 c4
  go_wp2_with fail
  refine (file_any p zs cap same a b c _ HZ.out (HS.out.below HB1.out)).mono ?_
  rintro e w2 ⟨v, q, rfl, hown, hb2⟩
  have HB2 := Lib.hid (below_trans HB1.out hb2)
  have HI0 := Lib.hid (HI0.out.below hb2)
  have HI0b := Lib.hid HI0.out.lt
  have HA' := Lib.hid (HA'.out.below hb2)
  clear hb2 HB1 HS HA c0 c1 c2 c3 c4
  obtain ⟨v0, vc, rfl, hv⟩ : ∃ v0 vc, v = .slice (some ⟨v0, 0, none⟩) 31 vc ∧ v0 < w2.heap.size := by
    obtain ⟨g', c', hv, _, h4, _⟩ := own_open hown (by omega)
    exact ⟨g', c', hv, h4⟩
  have HI := Lib.hid (file_size (same := same) (ofX_length zs) (sys := [a, b, c]) rfl)
  have HO := Lib.hid (one_cells (ofX zs) same [a, b, c])
  have HC := Lib.hid (show (fileCells (ofX zs) same [a, b, c]).toArray.size = 35 by rw [List.size_toArray]; exact fileCells_length (ofX_length _) rfl)
  generalize hcs : (fileCells (ofX zs) same [a, b, c]).toArray = cs at *
  have HCS := Lib.hid hcs
  clear hcs
  have hN1 : Blk ((w2.alloc (.cells #[.int .u64 0, .int .u64 0, .int .u64 0, .int .u64 0, .int .u64 0, .int .u64 0, .int .u64 0, .int .u64 0, .int .u64 0, .int .u64 0, .int .u64 0, .int .u64 0, .int .u64 0, .int .u64 0, .int .u64 0, .int .u64 0, .int .u64 0, .int .u64 0, .int .u64 0, .int .u64 0, .int .u64 0, .int .u64 0, .int .u64 0, .int .u64 0, .int .u64 0, .int .u64 0, .int .u64 0, .int .u64 0, .int .u64 0, .int .u64 0, .int .u64 0, .bool false, .int .u64 0, .int .u64 0, .int .u64 0] 30)).alloc (.cells #[.slice none 0 0, .bool false, .slice none 0 0] 32)) 32 (w2.heap.size + 1) [.slice none 0 0, .bool false, .slice none 0 0] := by
    have := Blk.new (w2.alloc (.cells #[.int .u64 0, .int .u64 0, .int .u64 0, .int .u64 0, .int .u64 0, .int .u64 0, .int .u64 0, .int .u64 0, .int .u64 0, .int .u64 0, .int .u64 0, .int .u64 0, .int .u64 0, .int .u64 0, .int .u64 0, .int .u64 0, .int .u64 0, .int .u64 0, .int .u64 0, .int .u64 0, .int .u64 0, .int .u64 0, .int .u64 0, .int .u64 0, .int .u64 0, .int .u64 0, .int .u64 0, .int .u64 0, .int .u64 0, .int .u64 0, .int .u64 0, .bool false, .int .u64 0, .int .u64 0, .int .u64 0] 30)) 32 [.slice none 0 0, .bool false, .slice none 0 0]
    rw [World.size_alloc] at this
    exact this
  have hN0 : Blk ((w2.alloc (.cells #[.int .u64 0, .int .u64 0, .int .u64 0, .int .u64 0, .int .u64 0, .int .u64 0, .int .u64 0, .int .u64 0, .int .u64 0, .int .u64 0, .int .u64 0, .int .u64 0, .int .u64 0, .int .u64 0, .int .u64 0, .int .u64 0, .int .u64 0, .int .u64 0, .int .u64 0, .int .u64 0, .int .u64 0, .int .u64 0, .int .u64 0, .int .u64 0, .int .u64 0, .int .u64 0, .int .u64 0, .int .u64 0, .int .u64 0, .int .u64 0, .int .u64 0, .bool false, .int .u64 0, .int .u64 0, .int .u64 0] 30)).alloc (.cells #[.slice none 0 0, .bool false, .slice none 0 0] 32)) 30 w2.heap.size zero35 := (Blk.new w2 30 zero35).alloc _
  have HN0 := Lib.hid hN0
  have HN1 := Lib.hid hN1
  clear hN0 hN1
  have hw : Below w2.heap.size w2 ((((w2.alloc (.cells #[.int .u64 0, .int .u64 0, .int .u64 0, .int .u64 0, .int .u64 0, .int .u64 0, .int .u64 0, .int .u64 0, .int .u64 0, .int .u64 0, .int .u64 0, .int .u64 0, .int .u64 0, .int .u64 0, .int .u64 0, .int .u64 0, .int .u64 0, .int .u64 0, .int .u64 0, .int .u64 0, .int .u64 0, .int .u64 0, .int .u64 0, .int .u64 0, .int .u64 0, .int .u64 0, .int .u64 0, .int .u64 0, .int .u64 0, .int .u64 0, .int .u64 0, .bool false, .int .u64 0, .int .u64 0, .int .u64 0] 30)).alloc (.cells #[.slice none 0 0, .bool false, .slice none 0 0] 32)).setRow w2.heap.size cs).setRow (w2.heap.size + 1) #[.slice (some ⟨v0, 0, none⟩) 31 vc, .bool same, .slice q 3 3]) := below_setRow (below_setRow (below_alloc (below_alloc (Below.refl _ _) _) _) (Nat.le_refl _) _) (by omega) _
  have hx : FileAt ((((w2.alloc (.cells #[.int .u64 0, .int .u64 0, .int .u64 0, .int .u64 0, .int .u64 0, .int .u64 0, .int .u64 0, .int .u64 0, .int .u64 0, .int .u64 0, .int .u64 0, .int .u64 0, .int .u64 0, .int .u64 0, .int .u64 0, .int .u64 0, .int .u64 0, .int .u64 0, .int .u64 0, .int .u64 0, .int .u64 0, .int .u64 0, .int .u64 0, .int .u64 0, .int .u64 0, .int .u64 0, .int .u64 0, .int .u64 0, .int .u64 0, .int .u64 0, .int .u64 0, .bool false, .int .u64 0, .int .u64 0, .int .u64 0] 30)).alloc (.cells #[.slice none 0 0, .bool false, .slice none 0 0] 32)).setRow w2.heap.size cs).setRow (w2.heap.size + 1) #[.slice (some ⟨v0, 0, none⟩) 31 vc, .bool same, .slice q 3 3]) 30 w2.heap.size (ofX zs) same [a, b, c] := ⟨by rw [HCS.out]; exact (setRow_other _ _ _ _ (by omega)).trans (setRow_heap _ _ _ _ _ _ HN0.out), ofX_length zs, rfl⟩
  have hgs : w2.heap.size + 1 < ((((w2.alloc (.cells #[.int .u64 0, .int .u64 0, .int .u64 0, .int .u64 0, .int .u64 0, .int .u64 0, .int .u64 0, .int .u64 0, .int .u64 0, .int .u64 0, .int .u64 0, .int .u64 0, .int .u64 0, .int .u64 0, .int .u64 0, .int .u64 0, .int .u64 0, .int .u64 0, .int .u64 0, .int .u64 0, .int .u64 0, .int .u64 0, .int .u64 0, .int .u64 0, .int .u64 0, .int .u64 0, .int .u64 0, .int .u64 0, .int .u64 0, .int .u64 0, .int .u64 0, .bool false, .int .u64 0, .int .u64 0, .int .u64 0] 30)).alloc (.cells #[.slice none 0 0, .bool false, .slice none 0 0] 32)).setRow w2.heap.size cs).setRow (w2.heap.size + 1) #[.slice (some ⟨v0, 0, none⟩) 31 vc, .bool same, .slice q 3 3]).heap.size := by simp
  obtain ⟨w3, hw3⟩ : ∃ w3, ((((w2.alloc (.cells #[.int .u64 0, .int .u64 0, .int .u64 0, .int .u64 0, .int .u64 0, .int .u64 0, .int .u64 0, .int .u64 0, .int .u64 0, .int .u64 0, .int .u64 0, .int .u64 0, .int .u64 0, .int .u64 0, .int .u64 0, .int .u64 0, .int .u64 0, .int .u64 0, .int .u64 0, .int .u64 0, .int .u64 0, .int .u64 0, .int .u64 0, .int .u64 0, .int .u64 0, .int .u64 0, .int .u64 0, .int .u64 0, .int .u64 0, .int .u64 0, .int .u64 0, .bool false, .int .u64 0, .int .u64 0, .int .u64 0] 30)).alloc (.cells #[.slice none 0 0, .bool false, .slice none 0 0] 32)).setRow w2.heap.size cs).setRow (w2.heap.size + 1) #[.slice (some ⟨v0, 0, none⟩) 31 vc, .bool same, .slice q 3 3]) = w3 := ⟨_, rfl⟩
  rw [hw3] at hw hx hgs
  have HA' := Lib.hid (HA'.out.below hw)
  have HI0 := Lib.hid (HI0.out.below hw)
  have FX := Lib.hid hx
  have BX := Lib.hid (below_trans HB2.out hw)
  have hgww3 : w.heap.size ≤ w2.heap.size := HB2.out.size
  clear hw hx hown
  have c0 := HA'.out.cell 0
  have c1 := HA'.out.cell 1
  have c2 := HA'.out.cell 2
  have c3 := HA'.out.cell 3
  have c4 := HA'.out.cell 4
  simp only [List.getElem?_cons_zero, List.getElem?_cons_succ] at c0 c1 c2 c3 c4
  go_wp2_with (first | (refine wpList_store_row rfl 30 (.tmp 7) (.tmp 27) rfl w2.heap.size cs rfl rfl 30 _ HN0.out HI.out (by rw [HC.out]; rfl) HO.out ?_) | (refine wpList_store_row rfl 32 (.tmp 8) (.tmp 28) rfl (w2.heap.size + 1) #[.slice (some ⟨v0, 0, none⟩) 31 vc, .bool same, .slice q 3 3] rfl rfl 32 _ ((setRow_other _ _ _ _ (by omega)).trans HN1.out) (by kernel_rfl) rfl (by kernel_rfl) ?_))
  clear hw3
  have HIB := Lib.hid (show w.heap.size + 1 + 1 < w2.heap.size from HI0b.out)
  generalize w2.heap.size = g at *
  refine (file_any p' zs' cap' same' a' b' c' _ HZ'.out (HS'.out.below BX.out)).mono ?_
  rintro e w4 ⟨v, q', rfl, hown, hb2⟩
  have HB2 := Lib.hid (below_trans BX.out hb2)
  have HI0 := Lib.hid (HI0.out.below hb2)
  have FX := Lib.hid (FX.out.below hb2)
  have HI2 := Lib.hid (show w.heap.size + 1 + 1 < w4.heap.size from HI0.out.lt)
  have hg4 : g + 1 < w4.heap.size := Nat.lt_of_lt_of_le hgs hb2.size
  clear hb2 HS' HA' BX c0 c1 c2 c3 c4 hgs
  obtain ⟨v0', vc', rfl, hv'⟩ : ∃ v0 vc, v = .slice (some ⟨v0, 0, none⟩) 31 vc ∧ v0 < w4.heap.size := by
    obtain ⟨g', c', hv, _, h4, _⟩ := own_open hown (by omega)
    exact ⟨g', c', hv, h4⟩
  have HI' := Lib.hid (file_size (same := same') (ofX_length zs') (sys := [a', b', c']) rfl)
  have HO' := Lib.hid (one_cells (ofX zs') same' [a', b', c'])
  have HC' := Lib.hid (show (fileCells (ofX zs') same' [a', b', c']).toArray.size = 35 by rw [List.size_toArray]; exact fileCells_length (ofX_length _) rfl)
  generalize hcs : (fileCells (ofX zs') same' [a', b', c']).toArray = cs' at *
  have HCS' := Lib.hid hcs
  clear hcs
  have hN1 : Blk ((w4.alloc (.cells #[.int .u64 0, .int .u64 0, .int .u64 0, .int .u64 0, .int .u64 0, .int .u64 0, .int .u64 0, .int .u64 0, .int .u64 0, .int .u64 0, .int .u64 0, .int .u64 0, .int .u64 0, .int .u64 0, .int .u64 0, .int .u64 0, .int .u64 0, .int .u64 0, .int .u64 0, .int .u64 0, .int .u64 0, .int .u64 0, .int .u64 0, .int .u64 0, .int .u64 0, .int .u64 0, .int .u64 0, .int .u64 0, .int .u64 0, .int .u64 0, .int .u64 0, .bool false, .int .u64 0, .int .u64 0, .int .u64 0] 30)).alloc (.cells #[.slice none 0 0, .bool false, .slice none 0 0] 32)) 32 (w4.heap.size + 1) [.slice none 0 0, .bool false, .slice none 0 0] := by
    have := Blk.new (w4.alloc (.cells #[.int .u64 0, .int .u64 0, .int .u64 0, .int .u64 0, .int .u64 0, .int .u64 0, .int .u64 0, .int .u64 0, .int .u64 0, .int .u64 0, .int .u64 0, .int .u64 0, .int .u64 0, .int .u64 0, .int .u64 0, .int .u64 0, .int .u64 0, .int .u64 0, .int .u64 0, .int .u64 0, .int .u64 0, .int .u64 0, .int .u64 0, .int .u64 0, .int .u64 0, .int .u64 0, .int .u64 0, .int .u64 0, .int .u64 0, .int .u64 0, .int .u64 0, .bool false, .int .u64 0, .int .u64 0, .int .u64 0] 30)) 32 [.slice none 0 0, .bool false, .slice none 0 0]
    rw [World.size_alloc] at this
    exact this
  have hN0 : Blk ((w4.alloc (.cells #[.int .u64 0, .int .u64 0, .int .u64 0, .int .u64 0, .int .u64 0, .int .u64 0, .int .u64 0, .int .u64 0, .int .u64 0, .int .u64 0, .int .u64 0, .int .u64 0, .int .u64 0, .int .u64 0, .int .u64 0, .int .u64 0, .int .u64 0, .int .u64 0, .int .u64 0, .int .u64 0, .int .u64 0, .int .u64 0, .int .u64 0, .int .u64 0, .int .u64 0, .int .u64 0, .int .u64 0, .int .u64 0, .int .u64 0, .int .u64 0, .int .u64 0, .bool false, .int .u64 0, .int .u64 0, .int .u64 0] 30)).alloc (.cells #[.slice none 0 0, .bool false, .slice none 0 0] 32)) 30 w4.heap.size zero35 := (Blk.new w4 30 zero35).alloc _
  have HN0 := Lib.hid hN0
  have HN1 := Lib.hid hN1
  clear hN0 hN1
  have hw : Below w4.heap.size w4 ((((w4.alloc (.cells #[.int .u64 0, .int .u64 0, .int .u64 0, .int .u64 0, .int .u64 0, .int .u64 0, .int .u64 0, .int .u64 0, .int .u64 0, .int .u64 0, .int .u64 0, .int .u64 0, .int .u64 0, .int .u64 0, .int .u64 0, .int .u64 0, .int .u64 0, .int .u64 0, .int .u64 0, .int .u64 0, .int .u64 0, .int .u64 0, .int .u64 0, .int .u64 0, .int .u64 0, .int .u64 0, .int .u64 0, .int .u64 0, .int .u64 0, .int .u64 0, .int .u64 0, .bool false, .int .u64 0, .int .u64 0, .int .u64 0] 30)).alloc (.cells #[.slice none 0 0, .bool false, .slice none 0 0] 32)).setRow w4.heap.size cs').setRow (w4.heap.size + 1) #[.slice (some ⟨v0', 0, none⟩) 31 vc', .bool same', .slice q' 3 3]) := below_setRow (below_setRow (below_alloc (below_alloc (Below.refl _ _) _) _) (Nat.le_refl _) _) (by omega) _
  have hx : FileAt ((((w4.alloc (.cells #[.int .u64 0, .int .u64 0, .int .u64 0, .int .u64 0, .int .u64 0, .int .u64 0, .int .u64 0, .int .u64 0, .int .u64 0, .int .u64 0, .int .u64 0, .int .u64 0, .int .u64 0, .int .u64 0, .int .u64 0, .int .u64 0, .int .u64 0, .int .u64 0, .int .u64 0, .int .u64 0, .int .u64 0, .int .u64 0, .int .u64 0, .int .u64 0, .int .u64 0, .int .u64 0, .int .u64 0, .int .u64 0, .int .u64 0, .int .u64 0, .int .u64 0, .bool false, .int .u64 0, .int .u64 0, .int .u64 0] 30)).alloc (.cells #[.slice none 0 0, .bool false, .slice none 0 0] 32)).setRow w4.heap.size cs').setRow (w4.heap.size + 1) #[.slice (some ⟨v0', 0, none⟩) 31 vc', .bool same', .slice q' 3 3]) 30 w4.heap.size (ofX zs') same' [a', b', c'] := ⟨by rw [HCS'.out]; exact (setRow_other _ _ _ _ (by omega)).trans (setRow_heap _ _ _ _ _ _ HN0.out), ofX_length zs', rfl⟩
  have hgs : w4.heap.size + 1 < ((((w4.alloc (.cells #[.int .u64 0, .int .u64 0, .int .u64 0, .int .u64 0, .int .u64 0, .int .u64 0, .int .u64 0, .int .u64 0, .int .u64 0, .int .u64 0, .int .u64 0, .int .u64 0, .int .u64 0, .int .u64 0, .int .u64 0, .int .u64 0, .int .u64 0, .int .u64 0, .int .u64 0, .int .u64 0, .int .u64 0, .int .u64 0, .int .u64 0, .int .u64 0, .int .u64 0, .int .u64 0, .int .u64 0, .int .u64 0, .int .u64 0, .int .u64 0, .int .u64 0, .bool false, .int .u64 0, .int .u64 0, .int .u64 0] 30)).alloc (.cells #[.slice none 0 0, .bool false, .slice none 0 0] 32)).setRow w4.heap.size cs').setRow (w4.heap.size + 1) #[.slice (some ⟨v0', 0, none⟩) 31 vc', .bool same', .slice q' 3 3]).heap.size := by simp
  obtain ⟨w5, hw3⟩ : ∃ w5, ((((w4.alloc (.cells #[.int .u64 0, .int .u64 0, .int .u64 0, .int .u64 0, .int .u64 0, .int .u64 0, .int .u64 0, .int .u64 0, .int .u64 0, .int .u64 0, .int .u64 0, .int .u64 0, .int .u64 0, .int .u64 0, .int .u64 0, .int .u64 0, .int .u64 0, .int .u64 0, .int .u64 0, .int .u64 0, .int .u64 0, .int .u64 0, .int .u64 0, .int .u64 0, .int .u64 0, .int .u64 0, .int .u64 0, .int .u64 0, .int .u64 0, .int .u64 0, .int .u64 0, .bool false, .int .u64 0, .int .u64 0, .int .u64 0] 30)).alloc (.cells #[.slice none 0 0, .bool false, .slice none 0 0] 32)).setRow w4.heap.size cs').setRow (w4.heap.size + 1) #[.slice (some ⟨v0', 0, none⟩) 31 vc', .bool same', .slice q' 3 3]) = w5 := ⟨_, rfl⟩
  rw [hw3] at hw hx hgs
  have FX := Lib.hid (FX.out.below hw)
  have HI0 := Lib.hid (HI0.out.below hw)
  have GX := Lib.hid hx
  have BX := Lib.hid (below_trans HB2.out hw)
  have hgww5 : w.heap.size ≤ w4.heap.size := HB2.out.size
  clear hw hx hown
  have f0 := FX.out.sysAt 0 (by omega)
  have f1 := FX.out.sysAt 1 (by omega)
  have f2 := FX.out.sysAt 2 (by omega)
  have g0 := GX.out.sysAt 0 (by omega)
  have g1 := GX.out.sysAt 1 (by omega)
  have g2 := GX.out.sysAt 2 (by omega)
  simp only [List.getD_cons_zero, List.getD_cons_succ, Nat.add_zero, Nat.reduceAdd] at f0 f1 f2 g0 g1 g2
  have z1 := GX.out.free 32
  have z2 := GX.out.free 33
  have z3 := GX.out.free 34
  have hne1 : w.heap.size + 1 + 1 ≠ w4.heap.size := by have := HB2.out.size; have := HI2.out; omega
  have hne2 : w4.heap.size ≠ w.heap.size + 1 + 1 := fun e => hne1 e.symm
  obtain ⟨i0, i1, i2, i3, i4, i5⟩ := HI0.out.cells
  go_wp2_with (first | (refine wpList_store_row rfl 30 (.tmp 9) (.tmp 32) rfl w4.heap.size cs' rfl rfl 30 _ HN0.out HI'.out (by rw [HC'.out]; rfl) HO'.out ?_) | (refine wpList_store_row rfl 32 (.tmp 10) (.tmp 33) rfl (w4.heap.size + 1) #[.slice (some ⟨v0', 0, none⟩) 31 vc', .bool same', .slice q' 3 3] rfl rfl 32 _ ((setRow_other _ _ _ _ (by omega)).trans HN1.out) (by kernel_rfl) rfl (by kernel_rfl) ?_))
  have hgne : g ≠ w4.heap.size := by omega
  have GX := Lib.hid (show FileAt (((w5.setCell ⟨w4.heap.size, 32, none⟩ (.int .u64 a)).setCell ⟨w4.heap.size, 33, none⟩ (.int .u64 b)).setCell ⟨w4.heap.size, 34, none⟩ (.int .u64 c)) 30 w4.heap.size (ofX zs') same' [a, b, c] from ((GX.out.setSys 0 (by omega) a).setSys 1 (by omega) b).setSys 2 (by omega) c)
  have FX := Lib.hid (((FX.out.other (p := ⟨w4.heap.size, 32, none⟩) hgne (.int .u64 a)).other (p := ⟨w4.heap.size, 33, none⟩) hgne (.int .u64 b)).other (p := ⟨w4.heap.size, 34, none⟩) hgne (.int .u64 c))
  have IX := Lib.hid (((HI0.out.other (p := ⟨w4.heap.size, 32, none⟩) hne1 (.int .u64 a)).other (p := ⟨w4.heap.size, 33, none⟩) hne1 (.int .u64 b)).other (p := ⟨w4.heap.size, 34, none⟩) hne1 (.int .u64 c))
  have BX := Lib.hid (((BX.out.setCell (p := ⟨w4.heap.size, 32, none⟩) hgww5 (.int .u64 a)).setCell (p := ⟨w4.heap.size, 33, none⟩) hgww5 (.int .u64 b)).setCell (p := ⟨w4.heap.size, 34, none⟩) hgww5 (.int .u64 c))
  clear hw3 i0 i1 i2 i3 i4 i5 f0 f1 f2 g0 g1 g2 z1 z2 z3 HI0
  generalize ((w5.setCell ⟨w4.heap.size, 32, none⟩ (.int .u64 a)).setCell ⟨w4.heap.size, 33, none⟩ (.int .u64 b)).setCell ⟨w4.heap.size, 34, none⟩ (.int .u64 c) = w6 at *
  generalize w4.heap.size = g4 at *
  refine (data_any op d n m imm kind _ HOP.out).mono ?_
  rintro e w7 ⟨v, rfl, hl, hb7⟩
  have FX := Lib.hid (FX.out.below hb7)
  have GX := Lib.hid (GX.out.below hb7)
  have IX := Lib.hid (IX.out.below hb7)
  have BX := Lib.hid (below_trans BX.out hb7)
  have HLL := dataL_len op d n m
  have HIG := Lib.hid (show w.heap.size + 1 + 1 ≠ g from by have := HIB.out; omega)
  have hgg : g ≠ g4 ∧ w.heap.size + 1 + 1 ≠ g4 ∧ w.heap.size ≤ g4 := ⟨hgne, hne1, hgww5⟩
  obtain ⟨l, hl0⟩ : ∃ l, dataL op d n m = l := ⟨_, rfl⟩
  rw [hl0] at hl HLL
  have HL0 := Lib.hid hl0
  clear hb7 hl0
  obtain ⟨p2, c2, rfl⟩ : ∃ p2 c2, v = .slice p2 l.length c2 := by
    obtain ⟨_, ⟨h1, h0⟩ | ⟨g', off, c', hv, _⟩⟩ := hl
    · exact ⟨none, 0, by rw [h0]; exact h1⟩
    · exact ⟨_, _, hv⟩
  have HINV := Lib.hid (show RhInv w op d n m imm kind (ofX zs) same [a, b, c] g g4 (w.heap.size + 1 + 1) p2 l 0 (ofX zs') same' w7 from ⟨⟨GX.out, FX.out, IX.out, BX.out⟩, Agree.zero, fun j hj => by
    obtain ⟨_, ⟨_, h0⟩ | ⟨g', off, c', hv, _, _, hc⟩⟩ := hl
    · omega
    · injection hv with e1 e2 e3
      exact ⟨g', off, e1, by rw [hc j hj, intsZ_at _ _ hj]⟩⟩)
  clear hl FX GX IX BX
  go_wp2_with fail
  go_loopw [12] (fun i wr => ∃ k : Nat, ∃ xg : List Int, ∃ sg : Bool, k ≤ l.length ∧ i = .int .i64 k ∧ RhInv w op d n m imm kind (ofX zs) same [a, b, c] g g4 (w.heap.size + 1 + 1) p2 l k xg sg wr) (fun i _ => l.length - (intOf i).toNat)
  case atStart => exact ⟨0, _, _, by omega, rfl, HINV.out⟩
  case round =>
    obtain ⟨k, xg, sg, hk, rfl, hi⟩ := hrel
    have HI := Lib.hid hi
    clear hi HINV
    by_cases hjl : k < l.length
    · obtain ⟨g', off, hp2, hcell⟩ := HI.out.2.2 k hjl
      obtain ⟨y, hy⟩ : ∃ y, l.getD k 0 = y := ⟨_, rfl⟩
      rw [hy] at hcell
      have hcell2 := hy
      have HY := Lib.hid hy
      clear hy
      have HG := Lib.hid HI.out.1.1
      have HF := Lib.hid HI.out.1.2.1
      have HNE := Lib.hid (HG.out.ne_int hcell)
      subst hp2
      cases h32 : (y == 32)
      · clear hcell2
        go_wp2_with fail
        refine wp_region_held_drew (S := (fun w' => w'.cell? ⟨g', off + k, none⟩ = some (.int .i64 y))) (by kernel_rfl) (by (try dsimp only); exact hcell) (fun hHeld => ?_)
        refine wpAnyH_take (i := 0) (oi := ⟨some 53, _, _, _, _, _⟩) (v := ?_) rfl (by kernel_rfl) (by kernel_rfl) (by kernel_rfl) (fun _ _ _ h => h) (Or.inl ⟨by rfl, ?_⟩) (by assumption) ?_
        rotate_left
        · (intro w hSw; (try dsimp only at hSw); go_simp; try with_reducible rfl)
        simp only [Act.put, List.setIfInBounds_toArray, List.set_cons_zero, List.set_cons_succ]
        refine wpAnyH_take (i := 1) (oi := ⟨some 54, _, _, _, _, _⟩) (v := ?_) rfl (by kernel_rfl) (by kernel_rfl) (by kernel_rfl) (fun _ _ _ h => h) (Or.inl ⟨by rfl, ?_⟩) (by assumption) ?_
        rotate_left
        · (intro w hSw; (try dsimp only at hSw); go_simp; try with_reducible rfl)
        simp only [Act.put, List.setIfInBounds_toArray, List.set_cons_zero, List.set_cons_succ]
        refine wpAnyH_take (i := 2) (oi := ⟨some 55, _, _, _, _, _⟩) (v := ?_) rfl (by kernel_rfl) (by kernel_rfl) (by kernel_rfl) (fun _ _ _ h => h) (Or.inl ⟨by rfl, ?_⟩) (by assumption) ?_
        rotate_left
        · (intro w hSw; (try dsimp only at hSw); go_simp; try with_reducible rfl)
        simp only [Act.put, List.setIfInBounds_toArray, List.set_cons_zero, List.set_cons_succ]
        refine wpAnyH_take (i := 3) (oi := ⟨some 56, _, _, _, _, _⟩) (v := ?_) rfl (by kernel_rfl) (by kernel_rfl) (by kernel_rfl) (fun _ _ _ h => h) (Or.inl ⟨by rfl, ?_⟩) (by assumption) ?_
        rotate_left
        · (intro w hSw; (try dsimp only at hSw); go_simp; try with_reducible rfl)
        simp only [Act.put, List.setIfInBounds_toArray, List.set_cons_zero, List.set_cons_succ]
        refine wpAnyH_take (i := 4) (oi := ⟨some 57, _, _, _, _, _⟩) (v := ?_) rfl (by kernel_rfl) (by kernel_rfl) (by kernel_rfl) (fun _ _ _ h => h) (Or.inl ⟨by rfl, ?_⟩) (by assumption) ?_
        rotate_left
        · (intro w hSw; (try dsimp only at hSw); go_simp; try with_reducible rfl)
        simp only [Act.put, List.setIfInBounds_toArray, List.set_cons_zero, List.set_cons_succ]
        refine wpAnyH_take (i := 5) (oi := ⟨some 58, _, _, _, _, _⟩) (v := ?_) rfl (by kernel_rfl) (by kernel_rfl) (by kernel_rfl) (fun _ _ _ h => h) (Or.inl ⟨by rfl, ?_⟩) (by assumption) ?_
        rotate_left
        · (intro w hSw; (try dsimp only at hSw); go_simp; try with_reducible rfl)
        simp only [Act.put, List.setIfInBounds_toArray, List.set_cons_zero, List.set_cons_succ]
        refine wpAnyH_take (i := 6) (oi := ⟨some 59, _, _, _, _, _⟩) (v := ?_) rfl (by kernel_rfl) (by kernel_rfl) (by kernel_rfl) (fun _ _ _ h => h) (Or.inl ⟨by rfl, ?_⟩) (by assumption) ?_
        rotate_left
        · (intro w hSw; (try dsimp only at hSw); go_simp; try with_reducible rfl)
        simp only [Act.put, List.setIfInBounds_toArray, List.set_cons_zero, List.set_cons_succ]
        refine wpAnyH_take (i := 7) (oi := ⟨some 60, _, _, _, _, _⟩) (v := ?_) rfl (by kernel_rfl) (by kernel_rfl) (by kernel_rfl) (fun _ _ _ h => h) (Or.inl ⟨by rfl, ?_⟩) (by assumption) ?_
        rotate_left
        · (intro w hSw; (try dsimp only at hSw); go_simp; try with_reducible rfl)
        simp only [Act.put, List.setIfInBounds_toArray, List.set_cons_zero, List.set_cons_succ]
        refine wpAnyH_ready (rs := [8]) (by kernel_rfl) (by simp) ?_
        refine AllReadyH.cons (o := ⟨some 61, _, _, _, _, _⟩) rfl (fun K hK => ?_) AllReadyH.nil
        go_simp
        go_at_call 10; refine (fget_any g y wr.drew (show FileAt wr.drew 30 g (ofX zs) same [a, b, c] from HF.out)).mono ?_; rintro e w8 ⟨rfl, m8, rfl⟩
        refine hK.out _ _ (by (try dsimp only); exact hcell) ?_
        clear hK K hHeld
        intro hHeld
        try simp only [Act.put, List.setIfInBounds_toArray, List.set_cons_zero, List.set_cons_succ]
        refine wpAnyH_ready (rs := [9]) (by kernel_rfl) (by simp) ?_
        refine AllReadyH.cons (o := ⟨some 62, _, _, _, _, _⟩) rfl (fun K hK => ?_) AllReadyH.nil
        go_simp
        go_at_call 12; refine (fset_any g4 y _ (wr.drewN (1 + m8)) (show FileAt (wr.drewN (1 + m8)) 30 g4 xg sg [a, b, c] from HG.out)).mono ?_; rintro e w9 ⟨rfl, hf9, hg9⟩; have HH := Lib.hid (rh_reg hjl HI.out HY.out h32 hf9 hg9 hgg); clear hf9; have hcell : w9.cell? ⟨g', off + k, none⟩ = some (.int .i64 y) := hg9.cell (a := ⟨g', off + k, none⟩) hcell (fun e => HNE.out (by injection e)); clear hg9
        refine hK.out _ _ (by (try dsimp only); exact hcell) ?_
        clear hK K hHeld
        intro hHeld
        try simp only [Act.put, List.setIfInBounds_toArray, List.set_cons_zero, List.set_cons_succ]
        refine wpAnyH_done (by kernel_rfl) ?_ _
        go_wp2_with fail
        go_roundw
        case rel => exact ⟨k + 1, _, _, by omega, by go_num, HH.out⟩
        case measure => simp [intOf]; omega
      · have HH := Lib.hid (rh_flag hjl HI.out hcell2 h32 hgg)
        have fl1 := HF.out.flag
        have fl2 := HG.out.flag
        have fr2 := HG.out.free 31
        clear hcell2
        go_wp2_with fail
        go_roundw
        case rel => exact ⟨k + 1, _, _, by omega, by go_num, HH.out⟩
        case measure => simp [intOf]; omega
    · obtain rfl : k = l.length := by omega
      have FX := Lib.hid HI.out.1.2.1
      have GX := Lib.hid HI.out.1.1
      have IX := Lib.hid HI.out.1.2.2.1
      have BX := Lib.hid HI.out.1.2.2.2
      have hA := HI.out.2.1
      rw [← HL0.out] at hA
      have HTG := Lib.hid (fun (w0 : World) (h0 : FileAt w0 30 g4 xg sg [a, b, c]) => show Calls Try.prog 22 #[.pointer (some ⟨g4, 0, none⟩), instrV op d n m imm kind] w0 fun e w' => e = .returned (.bool (takenB op (getX (ofX zs) d) kind same)) ∧ Below w0.heap.size w0 w' from by
        have := (taken_any g4 op d n m imm kind) w0 h0
        rw [taken_agree hA HD.out] at this
        exact this)
      have HDO := Lib.hid (fun z hz => do_agree (imm := imm) (kind := kind) (sys := [a, b, c]) hA (ofX_length zs) GX.out.2.1 HD.out HN.out HM.out HACC.out (z := z) hz)
      clear hA HI HL0 hjl hk HLL
      obtain ⟨i0, i1, i2, i3, i4, i5⟩ := IX.out.cells
      go_wp2_with fail
      clear i0 i1 i2 i3 i4 i5
      refine wp_region_held_drew (S := (fun w' => w'.cell? ⟨w.heap.size + 1 + 1, 0, none⟩ = some (.int .i64 op) ∧ w'.cell? ⟨w.heap.size + 1 + 1, 1, none⟩ = some (.int .i64 d) ∧ w'.cell? ⟨w.heap.size + 1 + 1, 2, none⟩ = some (.int .i64 n) ∧ w'.cell? ⟨w.heap.size + 1 + 1, 3, none⟩ = some (.int .i64 m) ∧ w'.cell? ⟨w.heap.size + 1 + 1, 4, none⟩ = some (.int .i64 imm) ∧ w'.cell? ⟨w.heap.size + 1 + 1, 5, none⟩ = some (.int .i64 kind))) (by kernel_rfl) (by (try dsimp only); exact IX.out.cells) (fun hHeld => ?_)
      refine wpAnyH_take (i := 0) (oi := ⟨some 63, _, _, _, _, _⟩) (v := ?_) rfl (by kernel_rfl) (by kernel_rfl) (by kernel_rfl) (fun _ _ _ h => h) (Or.inl ⟨by rfl, ?_⟩) (by assumption) ?_
      rotate_left
      · (intro w hSw; (try dsimp only at hSw); go_simp; try with_reducible rfl)
      simp only [Act.put, List.setIfInBounds_toArray, List.set_cons_zero, List.set_cons_succ]
      refine wpAnyH_take (i := 2) (oi := ⟨some 65, _, _, _, _, _⟩) (v := ?_) rfl (by kernel_rfl) (by kernel_rfl) (by kernel_rfl) (fun _ _ _ h => h) (Or.inl ⟨by rfl, ?_⟩) (by assumption) ?_
      rotate_left
      · (intro w hSw; (try dsimp only at hSw); go_simp; try with_reducible rfl)
      simp only [Act.put, List.setIfInBounds_toArray, List.set_cons_zero, List.set_cons_succ]
      refine wpAnyH_ready (rs := [1]) (by kernel_rfl) (by simp) ?_
      refine AllReadyH.cons (o := ⟨some 64, _, _, _, _, _⟩) rfl (fun K hK => ?_) AllReadyH.nil
      go_simp
      go_at_call 22; refine (taken_any g op d n m imm kind wr.drew (show FileAt wr.drew 30 g (ofX zs) same [a, b, c] from FX.out)).mono ?_; rintro e w' ⟨rfl, hb⟩; have FX := Lib.hid (show FileAt w' 30 g (ofX zs) same [a, b, c] from (hb.block _ FX.out.lt).trans FX.out.1 |> fun e => ⟨e, FX.out.2⟩); have GX := Lib.hid (show FileAt w' 30 g4 xg sg [a, b, c] from (hb.block _ GX.out.lt).trans GX.out.1 |> fun e => ⟨e, GX.out.2⟩); have IX := Lib.hid (show InstrAt w' 42 (w.heap.size + 1 + 1) op d n m imm kind from (hb.block _ IX.out.lt).trans IX.out); have BX := Lib.hid (show Below w.heap.size w w' from BX.out.drew.trans (hb.mono BX.out.size)); clear hb
      refine hK.out _ _ (by (try dsimp only); exact IX.out.cells) ?_
      clear hK K hHeld
      intro hHeld
      try simp only [Act.put, List.setIfInBounds_toArray, List.set_cons_zero, List.set_cons_succ]
      refine wpAnyH_ready (rs := [3]) (by kernel_rfl) (by simp) ?_
      refine AllReadyH.cons (o := ⟨some 66, _, _, _, _, _⟩) rfl (fun K hK => ?_) AllReadyH.nil
      go_simp
      go_at_call 22; refine (HTG.out _ (show FileAt _ 30 g4 xg sg [a, b, c] from GX.out)).mono ?_; rintro e w' ⟨rfl, hb⟩; have FX := Lib.hid (show FileAt w' 30 g (ofX zs) same [a, b, c] from (hb.block _ FX.out.lt).trans FX.out.1 |> fun e => ⟨e, FX.out.2⟩); have GX := Lib.hid (show FileAt w' 30 g4 xg sg [a, b, c] from (hb.block _ GX.out.lt).trans GX.out.1 |> fun e => ⟨e, GX.out.2⟩); have IX := Lib.hid (show InstrAt w' 42 (w.heap.size + 1 + 1) op d n m imm kind from (hb.block _ IX.out.lt).trans IX.out); have BX := Lib.hid (show Below w.heap.size w w' from BX.out.trans (hb.mono BX.out.size)); clear hb
      refine hK.out _ _ (by (try dsimp only); exact IX.out.cells) ?_
      clear hK K hHeld
      intro hHeld
      try simp only [Act.put, List.setIfInBounds_toArray, List.set_cons_zero, List.set_cons_succ]
      refine wpAnyH_take (i := 4) (oi := ⟨some 67, _, _, _, _, _⟩) (v := ?_) rfl (by kernel_rfl) (by kernel_rfl) (by kernel_rfl) (fun _ _ _ h => h) (Or.inl ⟨by rfl, ?_⟩) (by assumption) ?_
      rotate_left
      · (intro w hSw; (try dsimp only at hSw); go_simp; try with_reducible rfl)
      simp only [Act.put, List.setIfInBounds_toArray, List.set_cons_zero, List.set_cons_succ]
      refine wpAnyH_done (by kernel_rfl) ?_ _
      obtain ⟨i0, i1, i2, i3, i4, i5⟩ := IX.out.cells
      go_wp2_with fail
      refine (do_any g op d n m imm kind HOP.out H6.out H23.out _ FX.out).mono ?_
      rintro e w10 ⟨rfl, hf10, hg10⟩
      have GX := Lib.hid (GX.out.kept hg10 (fun e => hgne (by injection e with e; exact e.symm)))
      have IX := Lib.hid (IX.out.kept hg10 (fun e => HIG.out (by injection e)))
      have BX := Lib.hid (BX.out.grown hg10 BX.out.size (fun k hk => by injection hk with hk; omega))
      have FX := Lib.hid hf10
      clear hf10 hg10 i0 i1 i2 i3 i4 i5
      obtain ⟨i0, i1, i2, i3, i4, i5⟩ := IX.out.cells
      go_wp2_with fail
      refine (do_any g4 op d n m imm kind HOP.out H6.out H23.out _ GX.out).mono ?_
      rintro e w11 ⟨rfl, hf11, hg11⟩
      have FX := Lib.hid (FX.out.kept hg11 (fun e => hgne (by injection e)))
      have IX := Lib.hid (IX.out.kept hg11 (fun e => hgg.2.1 (by injection e)))
      have BX := Lib.hid (BX.out.grown hg11 BX.out.size (fun k hk => by injection hk with hk; omega))
      have GX := Lib.hid hf11
      clear hf11 hg11 i0 i1 i2 i3 i4 i5
      obtain ⟨i0, i1, i2, i3, i4, i5⟩ := IX.out.cells
      go_wp2_with fail
      refine (sets_any op d n m imm kind _ HOP.out).mono ?_
      rintro e w12 ⟨v, rfl, hl, hb12⟩
      have FX := Lib.hid (FX.out.below hb12)
      have GX := Lib.hid (GX.out.below hb12)
      have BX := Lib.hid (below_trans BX.out hb12)
      have HLL := setsL_len op d
      clear hb12 i0 i1 i2 i3 i4 i5
      generalize setsL op d = l2 at *
      generalize doX op d n m imm kind [a, b, c] (ofX zs) = xf2 at *
      generalize doX op d n m imm kind [a, b, c] xg = xg2 at *
      generalize doS op n m (ofX zs) same = sf2 at *
      generalize doS op n m xg sg = sg2 at *
      obtain ⟨p3, c3, rfl⟩ : ∃ p3 c3, v = .slice p3 l2.length c3 := by
        obtain ⟨_, ⟨h1, h0⟩ | ⟨g', off, c', hv, _⟩⟩ := hl
        · exact ⟨none, 0, by rw [h0]; exact h1⟩
        · exact ⟨_, _, hv⟩
      have HL := Lib.hid (fun j (hj : j < l2.length) => show ∃ g' off, p3 = some ⟨g', off, none⟩ ∧ w12.cell? ⟨g', off + j, none⟩ = some (.int .i64 (l2.getD j 0)) from by
        obtain ⟨_, ⟨_, h0⟩ | ⟨g', off, c', hv, _, _, hc⟩⟩ := hl
        · omega
        · injection hv with e1 e2 e3
          exact ⟨g', off, e1, by rw [hc j hj, intsZ_at _ _ hj]⟩)
      clear hl
      have fl1 := FX.out.flag
      have fl2 := GX.out.flag
      go_wp2_with fail
      go_loopw [14] (fun i wr => ∃ k mm : Nat, k ≤ l2.length ∧ i = .int .i64 k ∧ wr = w12.drewN mm) (fun i _ => l2.length - (intOf i).toNat)
      case atStart => exact ⟨0, 0, by omega, rfl, rfl⟩
      case round =>
        obtain ⟨k2, mm, hk2, rfl, rfl⟩ := hrel
        by_cases hjl : k2 < l2.length
        · obtain ⟨g', off, rfl, hcell⟩ := HL.out k2 hjl
          have hmem : l2.getD k2 0 ∈ l2 := by rw [List.getD, List.getElem?_eq_getElem hjl]; exact List.getElem_mem _
          have hboth := HDO.out _ hmem
          clear hmem
          generalize l2.getD k2 0 = y at *
          cases h32 : (y == 32)
          · have h32' : (y != 32) = true := by simp [bne, h32]
            have hg1 := fun n2 : Nat => fget_any g4 y (w12.drewN n2) (show FileAt (w12.drewN n2) 30 g4 xg2 sg2 [a, b, c] from GX.out)
            rw [hboth.1 (beq_eq_false_iff_ne.1 h32)] at hg1
            have HG1 := Lib.hid hg1
            have HF1 := Lib.hid (fun n2 : Nat => fget_any g y (w12.drewN n2) (show FileAt (w12.drewN n2) 30 g xf2 sf2 [a, b, c] from FX.out))
            clear hg1 hboth fl1 fl2
            go_wp2_with fail
            go_quiet (first | (go_at_call 10; with_reducible exact quiet_add (HF1.out _)) | (go_at_call 10; with_reducible exact quiet_add (HG1.out _)))
            go_wp2_with fail
            go_roundw
            case rel => exact ⟨k2 + 1, mm + nq, by omega, by go_num, rfl⟩
            case measure => simp [intOf]; omega
          · have h32' : (y != 32) = false := by simp [bne, h32]
            have hs := hboth.2 (beq_iff_eq.1 h32)
            rw [hs] at fl2
            clear hs hboth
            go_wp2_with fail
            go_quiet (fail)
            go_wp2_with fail
            go_roundw
            case rel => exact ⟨k2 + 1, mm + nq, by omega, by go_num, rfl⟩
            case measure => simp [intOf]; omega
        · obtain rfl : k2 = l2.length := by omega
          go_wp2
          go_ret
          exact ⟨rfl, below_drewN BX.out _⟩

set_option maxRecDepth 100000 in
theorem lifted (os : Os) (started : os.Started) (H : Type) (enc : TypeId × Value → H) :
    ReturnsInHanded {} Try.checked os 6 .any (Rows.regsHangSpec.pre6 enc Try.prog Try.f6 Rows.regsHangRow.domain false) (Rows.regsHangSpec.post enc Try.prog Try.f6 false true false false) := by
  refine returnsInHanded_of_change (C := Try.checked) own started (by kernel_rfl) Try.func6
    (ChangeSpec.witness6 (enc := enc) (C := Try.checked) false ⟨#[], #[.agg #[.slice none 0 0, .bool false, .int .u64 0, .int .u64 0, .int .u64 0], .agg #[.slice none 0 0, .bool false, .int .u64 0, .int .u64 0, .int .u64 0], .agg #[.int .i64 0, .int .i64 0, .int .i64 0, .int .i64 0, .int .i64 0, .int .i64 0]], []⟩ 8 (by kernel_rfl) (by kernel_rfl) (by kernel_rfl) (by kernel_rfl)) ?_
  intro W base args ds gs before hval0 hW hcnd _
  have hval : ∀ (j : Nat) t v, Try.f6.params[j]? = some t → args[j]? = some v → Value.okWide Try.prog W .any base t v := hval0
  have hW' := hW
  obtain ⟨p, q, hA0, hV, rfl, hfz, hnd⟩ := hW
  have hA : DataW.TrodAll enc Try.prog W 0 (fun _ => true) true Try.f6.params.toList args.toList ds p := hA0
  rw [Try.params6] at hA hval
  obtain ⟨v0, vs0, d0, ds0, p0, q0, hargs, rfl, rfl, h0, r0⟩ := trodAll_cons hA
  obtain ⟨v1, vs1, d1, ds1, p1, q1, rfl, rfl, rfl, h1, r1⟩ := trodAll_cons r0
  obtain ⟨v2, vs2, d2, ds2, p2, q2, rfl, rfl, rfl, h2, r2⟩ := trodAll_cons r1
  obtain ⟨rfl, rfl, rfl⟩ := trodAll_nil r2
  obtain rfl : args = #[v0, v1, v2] := by cases args; simp_all
  obtain ⟨rfl, rfl⟩ := trodVars_none hV
  have k0 := h0
  have lt0 : ∀ x ∈ p0, x.block < W.heap.size := by obtain ⟨m, hm⟩ := k0; exact DataW.trod_lt m _ _ _ hm
  obtain ⟨xp0, xz0, xc0, xs0, xa0, xb0, xd0, rfl, hz0, hs0⟩ := open_start (hval 0 26 v0 rfl rfl) h0
  have k1 := h1
  have lt1 : ∀ x ∈ p1, x.block < W.heap.size := by obtain ⟨m, hm⟩ := k1; exact DataW.trod_lt m _ _ _ hm
  obtain ⟨xp1, xz1, xc1, xs1, xa1, xb1, xd1, rfl, hz1, hs1⟩ := open_start (hval 1 26 v1 rfl rfl) h1
  have k2 := h2
  have lt2 : ∀ x ∈ p2, x.block < W.heap.size := by obtain ⟨m, hm⟩ := k2; exact DataW.trod_lt m _ _ _ hm
  obtain ⟨o2, x2, n2, m2, y2, c2, rfl, wz2⟩ := open_instr (hval 2 42 v2 rfl rfl) h2
  clear hA0 hval0
  refine (walk xp0 xz0 xc0 xs0 xa0 xb0 xd0 xp1 xz1 xc1 xs1 xa1 xb1 xd1 o2 x2 n2 m2 y2 c2 W hz0 hs0 hz1 hs1).mono fun e W' ⟨he, bel⟩ => ?_
  subst he
  exact ⟨_, rfl, _, _, _, [], _, [], hW', trodAll_mk1 (shut_bool Try.underlying4 _), (trodAll_cons_mk (Below.trod laidOut (by kernel_rfl) (of_decide_eq_true (by kernel_rfl)) k0 bel lt0) (trodAll_cons_mk (Below.trod laidOut (by kernel_rfl) (of_decide_eq_true (by kernel_rfl)) k1 bel lt1) (trodAll_cons_mk (Below.trod laidOut (by kernel_rfl) (of_decide_eq_true (by kernel_rfl)) k2 bel lt2) trodAll_mk0))), rfl, bel.frame _, fun h => by cases h⟩

theorem over : Rows.regsHangRow.holds Try.pinned (OpenSpec.ofChange Rows.regsHangSpec) :=
  OpenClaim.holds_of_wide 6 Try.f6 rfl rfl rfl rfl rfl rfl rfl ⟨rfl, rfl, rfl, rfl, rfl⟩ rfl rfl rfl rfl rfl (by kernel_rfl) Try.func6 (by kernel_rfl)
    (of_decide_eq_true (by kernel_rfl)) (by unfold Func.isWrapper; first | (rw [if_pos (by decide +kernel)]; kernel_rfl) | (rw [if_neg (by decide +kernel)]; exact ⟨rfl, rfl⟩))
    (fun os started H enc _ => lifted os started H enc)

theorem proved : Rows.RegsHangSaid := over
#print axioms proved
end Go.Proofs.Ytikflhigenijdaa.regsHang
