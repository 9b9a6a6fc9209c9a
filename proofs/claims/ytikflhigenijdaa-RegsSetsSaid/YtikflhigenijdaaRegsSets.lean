/- Any register is read and set, and no other one; the one that is always 0 stays. -/
import Derived.Test.YtikflhigenijdaaRows
import Derived.Test.YtikflhigenijdaaBase
import Derived.ShutString
import Derived.ChangeOld
import Derived.Lib.SmallJoins
import Derived.Test.YtikflhigenijdaaRegsIs
import Derived.Test.YtikflhigenijdaaStartOpen
import Derived.Test.YtikflhigenijdaaRegsAwake
import Derived.Deep.RegionHeld
namespace Go.Proofs.Ytikflhigenijdaa.regsSets
open Go.ChangeShapes Go.WideShapes Go.ChangeAt Go.RowKit
open Go.ChangeMaps (open_string shut_string)
set_option linter.unusedVariables false
set_option linter.unusedSimpArgs false

theorem own : ownKnob Try.prog.godebug = none := by kernel_rfl
theorem laidOut : laidOutB Try.prog = true := by kernel_rfl

theorem fileAt_dn {w : World} {T : TypeId} {g : Nat} {x : List Int} {same : Bool} {sys : List Int} (h : FileAt w T g x same sys) (m : Nat) : FileAt (w.drewN m) T g x same sys := h
theorem readRow_dn {w : World} {v : Value} {n : Nat} {xs : List Value} (h : readRow w v n xs) (m : Nat) : readRow (w.drewN m) v n xs := h

theorem readRow_belowB {w w' : World} {B g0 n cap : Nat} {xs : List Value} (h : readRow w (.slice (some ⟨g0, 0, none⟩) n cap) n xs) (hb : Below B w w') (hg : g0 < B) : readRow w' (.slice (some ⟨g0, 0, none⟩) n cap) n xs := by
  obtain ⟨hl, ⟨h2, _⟩ | ⟨g, off, c, hv, h3, h4, hc⟩⟩ := h
  · cases h2
  · injection hv with e1 e2 e3
    injection e1 with e1
    injection e1 with e1 e4
    subst e1 e3 e4
    exact ⟨hl, .inr ⟨g0, 0, cap, rfl, h3, h4, fun j hj => (hb.cell (p := ⟨g0, 0 + j, none⟩) hg).trans (hc j hj)⟩⟩

set_option maxRecDepth 100000 in
set_option maxHeartbeats 2000000 in
theorem walk (p : Option Addr) (zs : List Int) (cap : Nat) (same : Bool) (a b c n z : Int) (w : World) (hz : zs.length ≤ 9223372036854775807) (hs : SrcAt w p zs) (_ : (Lit.int .i64 n).wf = true) (_ : (Lit.int .u64 z).wf = true) :
    Calls Try.prog 3 #[.agg #[.slice p zs.length cap, .bool same, .int .u64 a, .int .u64 b, .int .u64 c], .int .i64 n, .int .u64 z] w fun e w' => e = .returned (.bool true) ∧ Below w.heap.size w w' := by
  have HS := Lib.hid hs
  have HZ := Lib.hid hz
  clear hs hz
  have hA := Blk.new w 26 [.slice p zs.length cap, .bool same, .int .u64 a, .int .u64 b, .int .u64 c]
  have HA := Lib.hid hA
  clear hA
  go_enter Try.func3, Try.ntmps3
  go_wp2_with fail
  refine (awake_any _).mono ?_
  rintro e w1 ⟨rfl, hb1⟩
  have hA1 := HA.out.below hb1
  have c0 := hA1.cell 0
  have c1 := hA1.cell 1
  have c2 := hA1.cell 2
  have c3 := hA1.cell 3
  have c4 := hA1.cell 4
  simp only [List.getElem?_cons_zero, List.getElem?_cons_succ] at c0 c1 c2 c3 c4
  have HB1 := Lib.hid (below_trans (below_alloc (Below.refl w.heap.size w) _) hb1)
  clear hb1 hA1
  go_wp2_with fail
  refine (file_any p zs cap same a b c _ HZ.out (HS.out.below HB1.out)).mono ?_
  rintro e w2 ⟨v, q, rfl, hown, hb2⟩
  obtain ⟨v0, vc, rfl, hv0⟩ : ∃ v0 vc, v = .slice (some ⟨v0, 0, none⟩) 31 vc ∧ v0 < w2.heap.size := by
    obtain ⟨g', c', hv, _, h4, _⟩ := own_open hown (by omega)
    exact ⟨g', c', hv, h4⟩
  have HI := Lib.hid (file_size (same := same) (ofX_length zs) (sys := [a, b, c]) rfl)
  have HO := Lib.hid (one_cells (ofX zs) same [a, b, c])
  have HC := Lib.hid (show (fileCells (ofX zs) same [a, b, c]).toArray.size = 35 by rw [List.size_toArray]; exact fileCells_length (ofX_length _) rfl)
  have HOWN := Lib.hid hown
  have HB2 := Lib.hid (below_trans HB1.out hb2)
  clear hown hb2 HB1 HS HA c0 c1 c2 c3 c4
  generalize hcs : (fileCells (ofX zs) same [a, b, c]).toArray = cs at *
  have HCS := Lib.hid hcs
  clear hcs
  have hN1 : Blk ((w2.alloc (.cells #[.int .u64 0, .int .u64 0, .int .u64 0, .int .u64 0, .int .u64 0, .int .u64 0, .int .u64 0, .int .u64 0, .int .u64 0, .int .u64 0, .int .u64 0, .int .u64 0, .int .u64 0, .int .u64 0, .int .u64 0, .int .u64 0, .int .u64 0, .int .u64 0, .int .u64 0, .int .u64 0, .int .u64 0, .int .u64 0, .int .u64 0, .int .u64 0, .int .u64 0, .int .u64 0, .int .u64 0, .int .u64 0, .int .u64 0, .int .u64 0, .int .u64 0, .bool false, .int .u64 0, .int .u64 0, .int .u64 0] 30)).alloc (.cells #[.slice none 0 0, .bool false, .slice none 0 0] 32)) 32 (w2.heap.size + 1) [.slice none 0 0, .bool false, .slice none 0 0] := by
    have := Blk.new (w2.alloc (.cells #[.int .u64 0, .int .u64 0, .int .u64 0, .int .u64 0, .int .u64 0, .int .u64 0, .int .u64 0, .int .u64 0, .int .u64 0, .int .u64 0, .int .u64 0, .int .u64 0, .int .u64 0, .int .u64 0, .int .u64 0, .int .u64 0, .int .u64 0, .int .u64 0, .int .u64 0, .int .u64 0, .int .u64 0, .int .u64 0, .int .u64 0, .int .u64 0, .int .u64 0, .int .u64 0, .int .u64 0, .int .u64 0, .int .u64 0, .int .u64 0, .int .u64 0, .bool false, .int .u64 0, .int .u64 0, .int .u64 0] 30)) 32 [.slice none 0 0, .bool false, .slice none 0 0]
    rw [World.size_alloc] at this
    exact this
  have hN0 : Blk ((w2.alloc (.cells #[.int .u64 0, .int .u64 0, .int .u64 0, .int .u64 0, .int .u64 0, .int .u64 0, .int .u64 0, .int .u64 0, .int .u64 0, .int .u64 0, .int .u64 0, .int .u64 0, .int .u64 0, .int .u64 0, .int .u64 0, .int .u64 0, .int .u64 0, .int .u64 0, .int .u64 0, .int .u64 0, .int .u64 0, .int .u64 0, .int .u64 0, .int .u64 0, .int .u64 0, .int .u64 0, .int .u64 0, .int .u64 0, .int .u64 0, .int .u64 0, .int .u64 0, .bool false, .int .u64 0, .int .u64 0, .int .u64 0] 30)).alloc (.cells #[.slice none 0 0, .bool false, .slice none 0 0] 32)) 30 w2.heap.size zero35 := (Blk.new w2 30 zero35).alloc _
  have HN0 := Lib.hid hN0
  have HN1 := Lib.hid hN1
  clear hN0 hN1
  go_wp2_with (first | (refine wpList_store_row rfl 30 (.tmp 7) (.tmp 14) rfl w2.heap.size cs rfl rfl 30 _ HN0.out HI.out (by rw [HC.out]; rfl) HO.out ?_) | (refine wpList_store_row rfl 32 (.tmp 8) (.tmp 15) rfl (w2.heap.size + 1) #[.slice (some ⟨v0, 0, none⟩) 31 vc, .bool same, .slice q 3 3] rfl rfl 32 _ ((setRow_other _ _ _ _ (by omega)).trans HN1.out) (by kernel_rfl) rfl (by kernel_rfl) ?_))
  have FX : Hid (FileAt (((((w2.alloc (.cells #[.int .u64 0, .int .u64 0, .int .u64 0, .int .u64 0, .int .u64 0, .int .u64 0, .int .u64 0, .int .u64 0, .int .u64 0, .int .u64 0, .int .u64 0, .int .u64 0, .int .u64 0, .int .u64 0, .int .u64 0, .int .u64 0, .int .u64 0, .int .u64 0, .int .u64 0, .int .u64 0, .int .u64 0, .int .u64 0, .int .u64 0, .int .u64 0, .int .u64 0, .int .u64 0, .int .u64 0, .int .u64 0, .int .u64 0, .int .u64 0, .int .u64 0, .bool false, .int .u64 0, .int .u64 0, .int .u64 0] 30)).alloc (.cells #[.slice none 0 0, .bool false, .slice none 0 0] 32)).setRow w2.heap.size cs).setRow (w2.heap.size + 1) #[.slice (some ⟨v0, 0, none⟩) 31 vc, .bool same, .slice q 3 3]).drew) 30 w2.heap.size (ofX zs) same [a, b, c]) :=
    Lib.hid ⟨by rw [HCS.out]; exact (setRow_other _ _ _ _ (by omega)).trans (setRow_heap _ _ _ _ _ _ HN0.out), ofX_length zs, rfl⟩
  have RX : Hid (Blk (((((w2.alloc (.cells #[.int .u64 0, .int .u64 0, .int .u64 0, .int .u64 0, .int .u64 0, .int .u64 0, .int .u64 0, .int .u64 0, .int .u64 0, .int .u64 0, .int .u64 0, .int .u64 0, .int .u64 0, .int .u64 0, .int .u64 0, .int .u64 0, .int .u64 0, .int .u64 0, .int .u64 0, .int .u64 0, .int .u64 0, .int .u64 0, .int .u64 0, .int .u64 0, .int .u64 0, .int .u64 0, .int .u64 0, .int .u64 0, .int .u64 0, .int .u64 0, .int .u64 0, .bool false, .int .u64 0, .int .u64 0, .int .u64 0] 30)).alloc (.cells #[.slice none 0 0, .bool false, .slice none 0 0] 32)).setRow w2.heap.size cs).setRow (w2.heap.size + 1) #[.slice (some ⟨v0, 0, none⟩) 31 vc, .bool same, .slice q 3 3]).drew) 32 (w2.heap.size + 1) [.slice (some ⟨v0, 0, none⟩) 31 vc, .bool same, .slice q 3 3]) :=
    Lib.hid (setRow_heap _ _ _ _ _ _ ((setRow_other _ _ _ _ (by omega)).trans HN1.out))
  have OX : Hid (readRow (((((w2.alloc (.cells #[.int .u64 0, .int .u64 0, .int .u64 0, .int .u64 0, .int .u64 0, .int .u64 0, .int .u64 0, .int .u64 0, .int .u64 0, .int .u64 0, .int .u64 0, .int .u64 0, .int .u64 0, .int .u64 0, .int .u64 0, .int .u64 0, .int .u64 0, .int .u64 0, .int .u64 0, .int .u64 0, .int .u64 0, .int .u64 0, .int .u64 0, .int .u64 0, .int .u64 0, .int .u64 0, .int .u64 0, .int .u64 0, .int .u64 0, .int .u64 0, .int .u64 0, .bool false, .int .u64 0, .int .u64 0, .int .u64 0] 30)).alloc (.cells #[.slice none 0 0, .bool false, .slice none 0 0] 32)).setRow w2.heap.size cs).setRow (w2.heap.size + 1) #[.slice (some ⟨v0, 0, none⟩) 31 vc, .bool same, .slice q 3 3]).drew) (.slice (some ⟨v0, 0, none⟩) 31 vc) 31 (u64s (ofX zs))) :=
    Lib.hid (readRow_below (readRow_own HOWN.out) (below_setRow (below_setRow (below_alloc (below_alloc (Below.refl _ _) _) _) (Nat.le_refl _) _) (by omega) _).drew)
  have BX : Hid (Below w.heap.size w (((((w2.alloc (.cells #[.int .u64 0, .int .u64 0, .int .u64 0, .int .u64 0, .int .u64 0, .int .u64 0, .int .u64 0, .int .u64 0, .int .u64 0, .int .u64 0, .int .u64 0, .int .u64 0, .int .u64 0, .int .u64 0, .int .u64 0, .int .u64 0, .int .u64 0, .int .u64 0, .int .u64 0, .int .u64 0, .int .u64 0, .int .u64 0, .int .u64 0, .int .u64 0, .int .u64 0, .int .u64 0, .int .u64 0, .int .u64 0, .int .u64 0, .int .u64 0, .int .u64 0, .bool false, .int .u64 0, .int .u64 0, .int .u64 0] 30)).alloc (.cells #[.slice none 0 0, .bool false, .slice none 0 0] 32)).setRow w2.heap.size cs).setRow (w2.heap.size + 1) #[.slice (some ⟨v0, 0, none⟩) 31 vc, .bool same, .slice q 3 3]).drew)) :=
    Lib.hid (below_setRow (below_setRow (below_alloc (below_alloc HB2.out _) _) HB2.out.size _) (by have := HB2.out.size; omega) _).drew
  have hgw : w.heap.size ≤ w2.heap.size := HB2.out.size
  clear HN0 HN1 HOWN HB2 HI HO HC HCS
  generalize ((((w2.alloc (.cells #[.int .u64 0, .int .u64 0, .int .u64 0, .int .u64 0, .int .u64 0, .int .u64 0, .int .u64 0, .int .u64 0, .int .u64 0, .int .u64 0, .int .u64 0, .int .u64 0, .int .u64 0, .int .u64 0, .int .u64 0, .int .u64 0, .int .u64 0, .int .u64 0, .int .u64 0, .int .u64 0, .int .u64 0, .int .u64 0, .int .u64 0, .int .u64 0, .int .u64 0, .int .u64 0, .int .u64 0, .int .u64 0, .int .u64 0, .int .u64 0, .int .u64 0, .bool false, .int .u64 0, .int .u64 0, .int .u64 0] 30)).alloc (.cells #[.slice none 0 0, .bool false, .slice none 0 0] 32)).setRow w2.heap.size cs).setRow (w2.heap.size + 1) #[.slice (some ⟨v0, 0, none⟩) 31 vc, .bool same, .slice q 3 3]) = w3 at *
  generalize w2.heap.size = g at *
  refine wp_region_held_drew (S := (fun w' => w'.cell? ⟨g + 1, 0, none⟩ = some (.slice (some ⟨v0, 0, none⟩) 31 vc) ∧ w'.cell? ⟨g + 1, 1, none⟩ = some (.bool same) ∧ w'.cell? ⟨g + 1, 2, none⟩ = some (.slice q 3 3))) (by kernel_rfl) (by (try dsimp only); exact ⟨RX.out.cell 0, RX.out.cell 1, RX.out.cell 2⟩) (fun hHeld => ?_)
  refine wpAnyH_take (i := 0) (oi := ⟨some 16, _, _, _, _, _⟩) (v := ?_) rfl (by kernel_rfl) (by kernel_rfl) (by kernel_rfl) (fun _ _ _ h => h) (Or.inl ⟨by rfl, ?_⟩) (by assumption) ?_
  rotate_left
  · (intro w hSw; (try dsimp only at hSw); go_simp; try with_reducible rfl)
  simp only [Act.put, List.setIfInBounds_toArray, List.set_cons_zero, List.set_cons_succ]
  refine wpAnyH_take (i := 2) (oi := ⟨some 18, _, _, _, _, _⟩) (v := ?_) rfl (by kernel_rfl) (by kernel_rfl) (by kernel_rfl) (fun _ _ _ h => h) (Or.inl ⟨by rfl, ?_⟩) (by assumption) ?_
  rotate_left
  · (intro w hSw; (try dsimp only at hSw); go_simp; try with_reducible rfl)
  simp only [Act.put, List.setIfInBounds_toArray, List.set_cons_zero, List.set_cons_succ]
  refine wpAnyH_take (i := 3) (oi := ⟨some 19, _, _, _, _, _⟩) (v := ?_) rfl (by kernel_rfl) (by kernel_rfl) (by kernel_rfl) (fun _ _ _ h => h) (Or.inl ⟨by rfl, ?_⟩) (by assumption) ?_
  rotate_left
  · (intro w hSw; (try dsimp only at hSw); go_simp; try with_reducible rfl)
  simp only [Act.put, List.setIfInBounds_toArray, List.set_cons_zero, List.set_cons_succ]
  refine wpAnyH_ready (rs := [1]) (by kernel_rfl) (by simp) ?_
  refine AllReadyH.cons (o := ⟨some 17, _, _, _, _, _⟩) rfl (fun K hK => ?_) AllReadyH.nil
  go_simp
  go_at_call 10; refine (fget_any g n _ FX.out).mono ?_; rintro e w' ⟨rfl, m, rfl⟩; have FX : Hid (FileAt (w3.drewN (1 + m)) 30 g (ofX zs) same [a, b, c]) := Lib.hid FX.out; have RX : Hid (Blk (w3.drewN (1 + m)) 32 (g + 1) [.slice (some ⟨v0, 0, none⟩) 31 vc, .bool same, .slice q 3 3]) := Lib.hid RX.out; have OX : Hid (readRow (w3.drewN (1 + m)) (.slice (some ⟨v0, 0, none⟩) 31 vc) 31 (u64s (ofX zs))) := Lib.hid OX.out; have BX : Hid (Below w.heap.size w (w3.drewN (1 + m))) := Lib.hid ⟨BX.out.os, BX.out.tape, BX.out.output, BX.out.size, BX.out.block⟩
  refine hK.out _ _ (by (try dsimp only); exact ⟨RX.out.cell 0, RX.out.cell 1, RX.out.cell 2⟩) ?_
  clear hK K hHeld
  intro hHeld
  try simp only [Act.put, List.setIfInBounds_toArray, List.set_cons_zero, List.set_cons_succ]
  refine wpAnyH_ready (rs := [4]) (by kernel_rfl) (by simp) ?_
  refine AllReadyH.cons (o := ⟨some 20, _, _, _, _, _⟩) rfl (fun K hK => ?_) AllReadyH.nil
  go_simp
  go_at_call 11; refine (rget_any (.slice (some ⟨v0, 0, none⟩) 31 vc) same q 3 3 (ofX zs) n _ (ofX_length zs) OX.out).mono ?_; rintro e w' ⟨rfl, hb⟩; have FX := Lib.hid (FX.out.below hb); have RX := Lib.hid (RX.out.below hb); have OX := Lib.hid (readRow_below OX.out hb); have BX := Lib.hid (below_trans BX.out hb); clear hb
  refine hK.out _ _ (by (try dsimp only); exact ⟨RX.out.cell 0, RX.out.cell 1, RX.out.cell 2⟩) ?_
  clear hK K hHeld
  intro hHeld
  try simp only [Act.put, List.setIfInBounds_toArray, List.set_cons_zero, List.set_cons_succ]
  refine wpAnyH_take (i := 5) (oi := ⟨some 21, _, _, _, _, _⟩) (v := ?_) rfl (by kernel_rfl) (by kernel_rfl) (by kernel_rfl) (fun _ _ _ h => h) (Or.inl ⟨by rfl, ?_⟩) (by assumption) ?_
  rotate_left
  · (intro w hSw; (try dsimp only at hSw); go_simp; try with_reducible rfl)
  simp only [Act.put, List.setIfInBounds_toArray, List.set_cons_zero, List.set_cons_succ]
  refine wpAnyH_done (by kernel_rfl) ?_ _

  go_wp2_with fail
  refine (fset_any g n z _ FX.out).mono ?_
  rintro e w5 ⟨rfl, hf5, hg5⟩
  have hb5 : Below g _ w5 := (Below.refl g _).grown hg5 (Nat.le_of_lt FX.out.lt) (fun k hk => by injection hk with hk; omega)
  have RX := Lib.hid (RX.out.kept hg5 (by simp))
  have OX := Lib.hid (readRow_belowB OX.out hb5 hv0)
  have BX := Lib.hid (BX.out.trans (hb5.mono hgw))
  have FX := Lib.hid hf5
  clear hf5 hg5 hb5
  by_cases h : 0 ≤ n ∧ n < 31
  · have h1 : 0 ≤ n := h.1
    have h2 : n ≤ 30 := by omega
    clear h
    have HI5 := Lib.hid (file_size (same := same) (show (setX (ofX zs) n z).length = 31 by rw [setX_length]; exact ofX_length zs) (sys := [a, b, c]) rfl)
    generalize hcs5 : (fileCells (setX (ofX zs) n z) same [a, b, c]).toArray = cs5 at *
    have HC5 := Lib.hid hcs5
    clear hcs5
    go_wp2_with fail
    have RX := Lib.hid (RX.out.dn 1)
    have FX := Lib.hid (fileAt_dn FX.out 1)
    have OX := Lib.hid (readRow_dn OX.out 1)
    have BX := Lib.hid (below_drewN BX.out 1)
    refine wp_region_held_drew (S := (fun w' => w'.heap[g]? = some (.cells cs5 30 (0, 0)) ∧ w'.cell? ⟨g + 1, 0, none⟩ = some (.slice (some ⟨v0, 0, none⟩) 31 vc) ∧ w'.cell? ⟨g + 1, 1, none⟩ = some (.bool same) ∧ w'.cell? ⟨g + 1, 2, none⟩ = some (.slice q 3 3))) (by kernel_rfl) (by (try dsimp only); exact ⟨by rw [← HC5.out]; exact FX.out.1, RX.out.cell 0, RX.out.cell 1, RX.out.cell 2⟩) (fun hHeld => ?_)
    refine wpAnyH_take (i := 0) (oi := ⟨some 39, _, _, _, _, _⟩) (v := .agg cs5) rfl (by kernel_rfl) (by kernel_rfl) (by kernel_rfl) (fun _ _ _ h => h) (Or.inl ⟨by rfl, fun w' hSw => exec_load_row 30 (.tmp 7) rfl g rfl 30 cs5 (0, 0) _ hSw.1 Try.underlying30 rfl HI5.out⟩) (by assumption) ?_
    simp only [Act.put, List.setIfInBounds_toArray, List.set_cons_zero, List.set_cons_succ]
    refine wpAnyH_take (i := 1) (oi := ⟨some 40, _, _, _, _, _⟩) (v := ?_) rfl (by kernel_rfl) (by kernel_rfl) (by kernel_rfl) (fun _ _ _ h => h) (Or.inl ⟨by rfl, ?_⟩) (by assumption) ?_
    rotate_left
    · (intro w hSw; (try dsimp only at hSw); go_simp; try with_reducible rfl)
    simp only [Act.put, List.setIfInBounds_toArray, List.set_cons_zero, List.set_cons_succ]
    refine wpAnyH_take (i := 2) (oi := ⟨some 41, _, _, _, _, _⟩) (v := ?_) rfl (by kernel_rfl) (by kernel_rfl) (by kernel_rfl) (fun _ _ _ h => h) (Or.inl ⟨by rfl, ?_⟩) (by assumption) ?_
    rotate_left
    · (intro w hSw; (try dsimp only at hSw); go_simp; try with_reducible rfl)
    simp only [Act.put, List.setIfInBounds_toArray, List.set_cons_zero, List.set_cons_succ]
    refine wpAnyH_take (i := 3) (oi := ⟨some 42, _, _, _, _, _⟩) (v := ?_) rfl (by kernel_rfl) (by kernel_rfl) (by kernel_rfl) (fun _ _ _ h => h) (Or.inl ⟨by rfl, ?_⟩) (by assumption) ?_
    rotate_left
    · (intro w hSw; (try dsimp only at hSw); go_simp; try with_reducible rfl)
    simp only [Act.put, List.setIfInBounds_toArray, List.set_cons_zero, List.set_cons_succ]
    refine wpAnyH_ready (rs := [4]) (by kernel_rfl) (by simp) ?_
    refine AllReadyH.cons (o := ⟨some 43, _, _, _, _, _⟩) rfl (fun K hK => ?_) AllReadyH.nil
    go_simp
    go_at_call 14; refine (rset_any (.slice (some ⟨v0, 0, none⟩) 31 vc) same q 3 3 (ofX zs) n z _ (ofX_length zs) OX.out).mono ?_; rintro e w' ⟨v3, rfl, ho, hb⟩; have FX := Lib.hid (FX.out.below hb); have RX := Lib.hid (RX.out.below hb); have BX := Lib.hid (below_trans BX.out hb); have QX := Lib.hid (readRow_own ho); clear hb ho
    refine hK.out _ _ (by (try dsimp only); exact ⟨by rw [← HC5.out]; exact FX.out.1, RX.out.cell 0, RX.out.cell 1, RX.out.cell 2⟩) ?_
    clear hK K hHeld
    intro hHeld
    try simp only [Act.put, List.setIfInBounds_toArray, List.set_cons_zero, List.set_cons_succ]
    refine wpAnyH_ready (rs := [5]) (by kernel_rfl) (by simp) ?_
    refine AllReadyH.cons (o := ⟨some 44, _, _, _, _, _⟩) rfl (fun K hK => ?_) AllReadyH.nil
    go_simp
    go_at_call 13; rw [← HC5.out]; refine (is_true v3 q 3 3 (setX (ofX zs) n z) same [a, b, c] _ (by rw [setX_length]; exact ofX_length zs) rfl QX.out).mono ?_; rintro e w' ⟨rfl, hb⟩; have FX := Lib.hid (FX.out.below hb); have RX := Lib.hid (RX.out.below hb); have BX := Lib.hid (below_trans BX.out hb); clear hb
    refine hK.out _ _ (by (try dsimp only); exact ⟨by rw [← HC5.out]; exact FX.out.1, RX.out.cell 0, RX.out.cell 1, RX.out.cell 2⟩) ?_
    clear hK K hHeld
    intro hHeld
    try simp only [Act.put, List.setIfInBounds_toArray, List.set_cons_zero, List.set_cons_succ]
    refine wpAnyH_take (i := 6) (oi := ⟨some 6, _, _, _, _, _⟩) (v := ?_) rfl (by kernel_rfl) (by kernel_rfl) (by kernel_rfl) (fun _ _ _ h => h) (Or.inl ⟨by rfl, ?_⟩) (by assumption) ?_
    rotate_left
    · (intro w hSw; (try dsimp only at hSw); go_simp; try with_reducible rfl)
    simp only [Act.put, List.setIfInBounds_toArray, List.set_cons_zero, List.set_cons_succ]
    refine wpAnyH_done (by kernel_rfl) ?_ _
    go_wp2
    go_ret
    exact ⟨rfl, BX.out⟩
  · by_cases h1 : n < 0
    · skip
      have FX := FX
      rw [setX_out _ _ _ h] at FX
      have HG := Lib.hid (getX_out (ofX zs) n h)
      have HI5 := Lib.hid (file_size (same := same) (ofX_length zs) (sys := [a, b, c]) rfl)
      clear h
      generalize hcs5 : (fileCells (ofX zs) same [a, b, c]).toArray = cs5 at *
      have HC5 := Lib.hid hcs5
      have HF5 := Lib.hid FX.out.1
      rw [hcs5] at HF5
      clear hcs5
      go_wp2_with (first | (refine wpList_load_row rfl 30 (.tmp 7) rfl g rfl 30 cs5 (0, 0) _ HF5.out Try.underlying30 rfl HI5.out ?_) | (refine wpList_load_row rfl 32 (.tmp 8) rfl (g + 1) rfl 32 #[.slice (some ⟨v0, 0, none⟩) 31 vc, .bool same, .slice q 3 3] (0, 0) _ RX.out Try.underlying32 rfl (by kernel_rfl) ?_))
      rw [← HC5.out]
      refine (is_true (.slice (some ⟨v0, 0, none⟩) 31 vc) q 3 3 (ofX zs) same [a, b, c] _ (ofX_length zs) rfl OX.out).mono ?_
      rintro e w6 ⟨rfl, hb6⟩
      have hg6 := fget_any g n _ (FX.out.below hb6)
      rw [HG.out] at hg6
      have HG6 := Lib.hid hg6
      have BX := Lib.hid (below_trans BX.out hb6)
      clear hb6 hg6
      go_wp2_with (go_at_call 10; refine HG6.out.mono ?_; rintro e w' ⟨rfl, m, rfl⟩)
      go_ret
      exact ⟨rfl, below_drewN BX.out _⟩
    · have h2 : 30 < n := by omega
      have FX := FX
      rw [setX_out _ _ _ h] at FX
      have HG := Lib.hid (getX_out (ofX zs) n h)
      have HI5 := Lib.hid (file_size (same := same) (ofX_length zs) (sys := [a, b, c]) rfl)
      clear h
      generalize hcs5 : (fileCells (ofX zs) same [a, b, c]).toArray = cs5 at *
      have HC5 := Lib.hid hcs5
      have HF5 := Lib.hid FX.out.1
      rw [hcs5] at HF5
      clear hcs5
      go_wp2_with (first | (refine wpList_load_row rfl 30 (.tmp 7) rfl g rfl 30 cs5 (0, 0) _ HF5.out Try.underlying30 rfl HI5.out ?_) | (refine wpList_load_row rfl 32 (.tmp 8) rfl (g + 1) rfl 32 #[.slice (some ⟨v0, 0, none⟩) 31 vc, .bool same, .slice q 3 3] (0, 0) _ RX.out Try.underlying32 rfl (by kernel_rfl) ?_))
      rw [← HC5.out]
      refine (is_true (.slice (some ⟨v0, 0, none⟩) 31 vc) q 3 3 (ofX zs) same [a, b, c] _ (ofX_length zs) rfl OX.out).mono ?_
      rintro e w6 ⟨rfl, hb6⟩
      have hg6 := fget_any g n _ (FX.out.below hb6)
      rw [HG.out] at hg6
      have HG6 := Lib.hid hg6
      have BX := Lib.hid (below_trans BX.out hb6)
      clear hb6 hg6
      go_wp2_with (go_at_call 10; refine HG6.out.mono ?_; rintro e w' ⟨rfl, m, rfl⟩)
      go_ret
      exact ⟨rfl, below_drewN BX.out _⟩

set_option maxRecDepth 100000 in
theorem lifted (os : Os) (started : os.Started) (H : Type) (enc : TypeId × Value → H) :
    ReturnsInHanded {} Try.checked os 3 .any (Rows.regsSetsSpec.pre6 enc Try.prog Try.f3 Rows.regsSetsRow.domain false) (Rows.regsSetsSpec.post enc Try.prog Try.f3 false true false false) := by
  refine returnsInHanded_of_change (C := Try.checked) own started (by kernel_rfl) Try.func3
    (ChangeSpec.witness6 (enc := enc) (C := Try.checked) false ⟨#[], #[.agg #[.slice none 0 0, .bool false, .int .u64 0, .int .u64 0, .int .u64 0], .int .i64 0, .int .u64 0], []⟩ 8 (by kernel_rfl) (by kernel_rfl) (by kernel_rfl) (by kernel_rfl)) ?_
  intro W base args ds gs before hval0 hW hcnd _
  have hval : ∀ (j : Nat) t v, Try.f3.params[j]? = some t → args[j]? = some v → Value.okWide Try.prog W .any base t v := hval0
  have hW' := hW
  obtain ⟨p, q, hA0, hV, rfl, hfz, hnd⟩ := hW
  have hA : DataW.TrodAll enc Try.prog W 0 (fun _ => true) true Try.f3.params.toList args.toList ds p := hA0
  rw [Try.params3] at hA hval
  obtain ⟨v0, vs0, d0, ds0, p0, q0, hargs, rfl, rfl, h0, r0⟩ := trodAll_cons hA
  obtain ⟨v1, vs1, d1, ds1, p1, q1, rfl, rfl, rfl, h1, r1⟩ := trodAll_cons r0
  obtain ⟨v2, vs2, d2, ds2, p2, q2, rfl, rfl, rfl, h2, r2⟩ := trodAll_cons r1
  obtain ⟨rfl, rfl, rfl⟩ := trodAll_nil r2
  obtain rfl : args = #[v0, v1, v2] := by cases args; simp_all
  obtain ⟨rfl, rfl⟩ := trodVars_none hV
  have k0 := h0
  have lt0 : ∀ x ∈ p0, x.block < W.heap.size := by obtain ⟨m, hm⟩ := k0; exact DataW.trod_lt m _ _ _ hm
  obtain ⟨xp0, xz0, xc0, xs0, xa0, xb0, xd0, rfl, hz0, hs0⟩ := open_start (hval 0 26 v0 rfl rfl) h0
  obtain ⟨a1, rfl, rfl, rfl, w1⟩ := open_int Try.underlying3 (hval 1 3 v1 rfl rfl) h1
  obtain ⟨a2, rfl, rfl, rfl, w2⟩ := open_int Try.underlying23 (hval 2 23 v2 rfl rfl) h2
  clear hA0 hval0
  refine (walk xp0 xz0 xc0 xs0 xa0 xb0 xd0 a1 a2 W hz0 hs0 w1 w2).mono fun e W' ⟨he, bel⟩ => ?_
  subst he
  exact ⟨_, rfl, _, _, _, [], _, [], hW', trodAll_mk1 (shut_bool Try.underlying4 _), (trodAll_cons_mk (Below.trod laidOut (by kernel_rfl) (of_decide_eq_true (by kernel_rfl)) k0 bel lt0) (trodAll_cons_mk (shut_int Try.underlying3 w1) (trodAll_cons_mk (shut_int Try.underlying23 w2) trodAll_mk0))), rfl, bel.frame _, fun h => by cases h⟩

theorem over : Rows.regsSetsRow.holds Try.pinned (OpenSpec.ofChange Rows.regsSetsSpec) :=
  OpenClaim.holds_of_wide 3 Try.f3 rfl rfl rfl rfl rfl rfl rfl ⟨rfl, rfl, rfl, rfl, rfl⟩ rfl rfl rfl rfl rfl (by kernel_rfl) Try.func3 (by kernel_rfl)
    (of_decide_eq_true (by kernel_rfl)) (by unfold Func.isWrapper; first | (rw [if_pos (by decide +kernel)]; kernel_rfl) | (rw [if_neg (by decide +kernel)]; exact ⟨rfl, rfl⟩))
    (fun os started H enc _ => lifted os started H enc)

theorem proved : Rows.RegsSetsSaid := over
#print axioms proved
end Go.Proofs.Ytikflhigenijdaa.regsSets
