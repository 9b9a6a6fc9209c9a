/- Contracts of Show, of granuleref05's Get and Set, and of the law's is. -/
import Derived.Test.YtikflhigenijdaaRegsStart
import Derived.Test.YtikflhigenijdaaAppN
namespace Go.Proofs.Ytikflhigenijdaa
open Go.RowKit
set_option linter.unusedVariables false

/-- A reference's file, in a block. -/
def RFileAt (w : World) (g : Nat) (v : Value) (same : Bool) (s : Value) (x : List Int) : Prop :=
  Blk w 32 g [v, .bool same, s] ∧ readRow w v 31 (u64s x)

theorem rget_any (v : Value) (same : Bool) (q : Option Addr) (sn sc : Nat) (x : List Int) (n : Int) (w : World) (hx : x.length = 31) (hr : readRow w v 31 (u64s x)) :
    Calls Try.prog 11 #[.agg #[v, .bool same, .slice q sn sc], .int .i64 n] w fun e w' => e = .returned (.int .u64 (getX x n)) ∧ Below w.heap.size w w' := by
  obtain ⟨_, ⟨_, h0⟩ | ⟨g, off, cap, rfl, hn, hcap, hc⟩⟩ := hr
  · omega
  by_cases h : 0 ≤ n ∧ n < 31
  · obtain ⟨k, rfl⟩ := Int.eq_ofNat_of_zero_le h.1
    have hcell := hc k (by omega)
    have e : (u64s x)[k]? = some (.int .u64 (x.getD k 0)) := by simp [u64s, List.getD, List.getElem?_eq_getElem (show k < x.length by omega)]
    rw [e] at hcell
    have hcell := cell_alloc hcell (.cells #[.slice (some ⟨g, off, none⟩) 31 cap, .bool same, .slice q sn sc] 32)
    have H := Lib.hid (getX_in x k (by omega))
    generalize x.getD k 0 = u at *
    clear hc e
    unfold maxLen at hcap
    go_enter Try.func11, Try.ntmps11
    go_wp2
    go_ret
    exact ⟨ret_int H.out.symm, below_alloc (Below.refl _ _) _⟩
  · have H := Lib.hid (getX_out x n h)
    by_cases h1 : n < 0
    · clear h hc
      go_enter Try.func11, Try.ntmps11
      go_wp2
      go_ret
      exact ⟨ret_int H.out.symm, below_alloc (Below.refl _ _) _⟩
    · have h2 : 31 ≤ n := by omega
      clear h hc
      go_enter Try.func11, Try.ntmps11
      go_wp2
      go_ret
      exact ⟨ret_int H.out.symm, below_alloc (Below.refl _ _) _⟩

theorem fshow_any (g : Nat) (w : World) {x : List Int} {same : Bool} {sys : List Int} (hf : FileAt w 30 g x same sys) :
    Calls Try.prog 35 #[.pointer (some ⟨g, 0, none⟩)] w fun e w' => ∃ v, e = .returned v ∧ w'.ownsRow w.heap.size 23 1 v 31 (u64s x) ∧ Below w.heap.size w w' := by
  have HF := Lib.hid (fun j (hj : j < 31) => show (w.alloc (.cells #[] 23)).cell? ⟨g, 0 + j, none⟩ = (u64s x)[j]? from by
    rw [Nat.zero_add, World.cell?_alloc_past _ _ _ hf.lt, hf.reg j hj]
    have hl := hf.2.1
    simp [u64s, List.getD, List.getElem?_eq_getElem (show j < x.length by omega)])
  have hl := hf.2.1
  clear hf
  go_enter Try.func35, Try.ntmps35
  go_wp2_with (at_builtin; refine appN rfl _ _ 22 rfl w.heap.size 23 (.int .u64 0) 8 elu rfl _ 0 [] rfl (.inr ⟨_, _, rfl, by unfold maxLen; omega, rfl, fun j hj => by omega⟩) g 0 31 31 (u64s x) rfl (by decide) (by rw [u64s_length]; exact hl) HF.out ?c1 ?c2 (by omega) ?c4 ?_)
  case c1 => intro u hu; simp only [u64s, List.mem_map] at hu; obtain ⟨z, _, rfl⟩ := hu; rfl
  case c2 => unfold maxLen; omega
  case c4 => simp
  intro v' w1 hown hb
  have HO := Lib.hid hown
  clear hown
  go_wp2
  go_ret
  exact ⟨_, rfl, by simpa using HO.out, (below_alloc (Below.refl _ _) _).trans hb⟩

theorem u64s_ok {x : List Int} : ∀ u ∈ u64s x, u.oneCell' = true := by
  intro u hu; simp only [u64s, List.mem_map] at hu; obtain ⟨z, _, rfl⟩ := hu; rfl
theorem setX_in (x : List Int) (k : Nat) (v : Int) (hk : k < 31) : setX x (k : Int) v = x.set k v := by
  unfold setX; rw [if_pos (by omega), Int.toNat_natCast]
theorem setX_out (x : List Int) (n v : Int) (h : ¬ (0 ≤ n ∧ n < 31)) : setX x n v = x := by unfold setX; rw [if_neg h]

set_option maxHeartbeats 800000 in
theorem rset_any (v : Value) (same : Bool) (q : Option Addr) (sn sc : Nat) (x : List Int) (n z : Int) (w : World) (hx : x.length = 31) (hr : readRow w v 31 (u64s x)) :
    Calls Try.prog 14 #[.agg #[v, .bool same, .slice q sn sc], .int .i64 n, .int .u64 z] w fun e w' => ∃ v', e = .returned (.agg #[v', .bool same, .slice q sn sc]) ∧ w'.ownsRow w.heap.size 23 1 v' 31 (u64s (setX x n z)) ∧ Below w.heap.size w w' := by
  obtain ⟨_, ⟨_, h0⟩ | ⟨g, off, cap, rfl, hn, hcap, hc⟩⟩ := hr
  · omega
  have hb3 : Below w.heap.size w (((w.alloc (.cells #[.slice (some ⟨g, off, none⟩) 31 cap, .bool same, .slice q sn sc] 32)).alloc (.cells #[.slice none 0 0, .bool false, .slice none 0 0] 32)).alloc (.cells #[] 23)) :=
    below_alloc (below_alloc (below_alloc (Below.refl _ _) _) _) _
  have HC := Lib.hid (fun j (hj : j < 31) => (hb3.cell (p := ⟨g, off + j, none⟩) (by
      have h1 := hc j hj
      rw [show (u64s x)[j]? = some (.int .u64 (x.getD j 0)) by simp [u64s, List.getD, List.getElem?_eq_getElem (show j < x.length by omega)]] at h1
      exact World.block_lt_of_cell? w _ h1)).trans (hc j hj))
  have hA0 := ((Blk.new w 32 [.slice (some ⟨g, off, none⟩) 31 cap, .bool same, .slice q sn sc]).alloc (.cells #[.slice none 0 0, .bool false, .slice none 0 0] 32)).alloc (.cells #[] 23)
  have hB0 : Blk (((w.alloc (.cells #[.slice (some ⟨g, off, none⟩) 31 cap, .bool same, .slice q sn sc] 32)).alloc (.cells #[.slice none 0 0, .bool false, .slice none 0 0] 32)).alloc (.cells #[] 23)) 32 (w.heap.size + 1) [.slice none 0 0, .bool false, .slice none 0 0] := by
    have := (Blk.new (w.alloc (.cells #[.slice (some ⟨g, off, none⟩) 31 cap, .bool same, .slice q sn sc] 32)) 32 [.slice none 0 0, .bool false, .slice none 0 0]).alloc (.cells #[] 23)
    rw [World.size_alloc] at this
    exact this
  have HA0 := Lib.hid hA0
  have HB0 := Lib.hid hB0
  have HB3 := Lib.hid hb3
  have HX := Lib.hid hx
  clear hc hA0 hB0 hb3 hx
  by_cases h : 0 ≤ n ∧ n < 31
  · obtain ⟨k, rfl⟩ := Int.eq_ofNat_of_zero_le h.1
    have hk : k < 31 := by omega
    have HS := Lib.hid (setX_in x k z hk)
    clear h
    go_enter Try.func14, Try.ntmps14
    go_wp2_with (at_builtin; refine appN rfl _ _ 22 rfl (w.heap.size + 2) 23 (.int .u64 0) 8 elu rfl _ 0 [] rfl (.inr ⟨_, _, rfl, by unfold maxLen; omega, rfl, fun j hj => by omega⟩) g off 31 cap (u64s x) rfl (by decide) (by rw [u64s_length]; exact HX.out) HC.out u64s_ok ?c2 (by omega) ?c4 ?_)
    case c2 => unfold maxLen; omega
    case c4 => simp
    intro v' w1 hown hb
    obtain ⟨g2, c2, rfl, hg2, hg2s, _, _, hcell, hfree⟩ := own_open hown (by omega)
    have hA1 := HA0.out.belowB hb (by omega)
    have hB1 := HB0.out.belowB hb (by omega)
    have a0 := hA1.cell 0
    have a1 := hA1.cell 1
    have a2 := hA1.cell 2
    have b0 := hB1.cell 0
    have b1 := hB1.cell 1
    have b2 := hB1.cell 2
    have fa := hA1.free 0
    have f0 := hB1.free 0
    have f1 := hB1.free 1
    have f2 := hB1.free 2
    simp only [List.getElem?_cons_zero, List.getElem?_cons_succ] at a0 a1 a2 b0 b1 b2
    have n1 : g2 ≠ w.heap.size := by omega
    have n2 : g2 ≠ w.heap.size + 1 := by omega
    have n3 : w.heap.size ≠ g2 := by omega
    have n4 : w.heap.size + 1 ≠ g2 := by omega
    have HBB := Lib.hid (show Below w.heap.size w w1 from HB3.out.trans (hb.mono (by omega)))
    have ck : w1.cell? ⟨g2, k, none⟩ = some (.int .u64 (x.getD k 0)) := by
      rw [hcell k hk]; simp [u64s, List.getD, List.getElem?_eq_getElem (show k < x.length by have := HX.out; omega)]
    have fk := hfree k
    generalize x.getD k 0 = u at *
    have HO := Lib.hid (hown.stored k (.int .u64 z)).1
    have HBl := Lib.hid hB1
    clear hown hcell hfree hb hA1 hB1
    go_wp2
    refine bodyPost_ret (results_cell_row rfl _ _ (w.heap.size + 1) 32 #[.slice (some ⟨g2, 0, none⟩) 31 c2, .bool same, .slice q sn sc] (0, 0) _ rfl ?_ Try.underlying32 rfl (by kernel_rfl)) rfl ⟨_, rfl, ?_, ?_⟩
    · exact (((((HBl.out.other (p := ⟨g2, k, none⟩) n4 _).other (p := ⟨w.heap.size, 0, none⟩) (by simp) _).set 0 _).set 1 _).set 2 _)
    · rw [HS.out]
      refine ownsRow_mono (ownsRow_setCell_below (ownsRow_setCell_below (ownsRow_setCell_below (ownsRow_setCell_below ?_ (by simp) _) (by simp) _) (by simp) _) (by simp) _) (base := w.heap.size + 2) (by omega)
      have := HO.out
      simpa [u64s, List.map_set] using this
    · exact (((((HBB.out.setCell (p := ⟨g2, k, none⟩) (by simp; omega) _).setCell (by simp) _).setCell (by simp) _).setCell (by simp) _).setCell (by simp) _)
  · have HS := Lib.hid (setX_out x n z h)
    by_cases h1 : n < 0
    · clear h
      go_enter Try.func14, Try.ntmps14
      go_wp2_with (at_builtin; refine appN rfl _ _ 22 rfl (w.heap.size + 2) 23 (.int .u64 0) 8 elu rfl _ 0 [] rfl (.inr ⟨_, _, rfl, by unfold maxLen; omega, rfl, fun j hj => by omega⟩) g off 31 cap (u64s x) rfl (by decide) (by rw [u64s_length]; exact HX.out) HC.out u64s_ok ?c2 (by omega) ?c4 ?_)
      case c2 => unfold maxLen; omega
      case c4 => simp
      intro v' w1 hown hb
      obtain ⟨g2, c2, rfl, hg2, hg2s, _, _, hcell, hfree⟩ := own_open hown (by omega)
      have hA1 := HA0.out.belowB hb (by omega)
      have hB1 := HB0.out.belowB hb (by omega)
      have a0 := hA1.cell 0
      have a1 := hA1.cell 1
      have a2 := hA1.cell 2
      have b0 := hB1.cell 0
      have b1 := hB1.cell 1
      have b2 := hB1.cell 2
      have fa := hA1.free 0
      have f0 := hB1.free 0
      have f1 := hB1.free 1
      have f2 := hB1.free 2
      simp only [List.getElem?_cons_zero, List.getElem?_cons_succ] at a0 a1 a2 b0 b1 b2
      have n1 : g2 ≠ w.heap.size := by omega
      have n2 : g2 ≠ w.heap.size + 1 := by omega
      have n3 : w.heap.size ≠ g2 := by omega
      have n4 : w.heap.size + 1 ≠ g2 := by omega
      have HBB := Lib.hid (show Below w.heap.size w w1 from HB3.out.trans (hb.mono (by omega)))
      have HO := Lib.hid hown
      have HBl := Lib.hid hB1
      clear hown hcell hfree hb hA1 hB1
      go_wp2
      refine bodyPost_ret (results_cell_row rfl _ _ (w.heap.size + 1) 32 #[.slice (some ⟨g2, 0, none⟩) 31 c2, .bool same, .slice q sn sc] (0, 0) _ rfl ?_ Try.underlying32 rfl (by kernel_rfl)) rfl ⟨_, rfl, ?_, ?_⟩
      · exact ((((HBl.out.other (p := ⟨w.heap.size, 0, none⟩) (by simp) _).set 0 _).set 1 _).set 2 _)
      · rw [HS.out]
        refine ownsRow_mono (ownsRow_setCell_below (ownsRow_setCell_below (ownsRow_setCell_below (ownsRow_setCell_below ?_ (by simp) _) (by simp) _) (by simp) _) (by simp) _) (base := w.heap.size + 2) (by omega)
        have := HO.out
        simpa using this
      · exact ((((HBB.out.setCell (by simp) _).setCell (by simp) _).setCell (by simp) _).setCell (by simp) _)
    · have h2 : 31 ≤ n := by omega
      clear h
      go_enter Try.func14, Try.ntmps14
      go_wp2_with (at_builtin; refine appN rfl _ _ 22 rfl (w.heap.size + 2) 23 (.int .u64 0) 8 elu rfl _ 0 [] rfl (.inr ⟨_, _, rfl, by unfold maxLen; omega, rfl, fun j hj => by omega⟩) g off 31 cap (u64s x) rfl (by decide) (by rw [u64s_length]; exact HX.out) HC.out u64s_ok ?e2 (by omega) ?e4 ?_)
      case e2 => unfold maxLen; omega
      try (case e4 => simp)
      intro v' w1 hown hb
      obtain ⟨g2, c2, rfl, hg2, hg2s, _, _, hcell, hfree⟩ := own_open hown (by omega)
      have hA1 := HA0.out.belowB hb (by omega)
      have hB1 := HB0.out.belowB hb (by omega)
      have a0 := hA1.cell 0
      have a1 := hA1.cell 1
      have a2 := hA1.cell 2
      have b0 := hB1.cell 0
      have b1 := hB1.cell 1
      have b2 := hB1.cell 2
      have fa := hA1.free 0
      have f0 := hB1.free 0
      have f1 := hB1.free 1
      have f2 := hB1.free 2
      simp only [List.getElem?_cons_zero, List.getElem?_cons_succ] at a0 a1 a2 b0 b1 b2
      have n1 : g2 ≠ w.heap.size := by omega
      have n2 : g2 ≠ w.heap.size + 1 := by omega
      have n3 : w.heap.size ≠ g2 := by omega
      have n4 : w.heap.size + 1 ≠ g2 := by omega
      have HBB := Lib.hid (show Below w.heap.size w w1 from HB3.out.trans (hb.mono (by omega)))
      have HO := Lib.hid hown
      have HBl := Lib.hid hB1
      clear hown hcell hfree hb hA1 hB1
      go_wp2
      refine bodyPost_ret (results_cell_row rfl _ _ (w.heap.size + 1) 32 #[.slice (some ⟨g2, 0, none⟩) 31 c2, .bool same, .slice q sn sc] (0, 0) _ rfl ?_ Try.underlying32 rfl (by kernel_rfl)) rfl ⟨_, rfl, ?_, ?_⟩
      · exact ((((HBl.out.other (p := ⟨w.heap.size, 0, none⟩) (by simp) _).set 0 _).set 1 _).set 2 _)
      · rw [HS.out]
        refine ownsRow_mono (ownsRow_setCell_below (ownsRow_setCell_below (ownsRow_setCell_below (ownsRow_setCell_below ?_ (by simp) _) (by simp) _) (by simp) _) (by simp) _) (base := w.heap.size + 2) (by omega)
        have := HO.out
        simpa using this
      · exact ((((HBB.out.setCell (by simp) _).setCell (by simp) _).setCell (by simp) _).setCell (by simp) _)

set_option maxRecDepth 100000 in
set_option maxHeartbeats 800000 in
theorem is_true (v : Value) (q : Option Addr) (sn sc : Nat) (x : List Int) (same : Bool) (sys : List Int) (w : World) (hx : x.length = 31) (hs : sys.length = 3) (hr : readRow w v 31 (u64s x)) :
    Calls Try.prog 13 #[.agg (fileCells x same sys).toArray, .agg #[v, .bool same, .slice q sn sc]] w fun e w' => e = .returned (.bool true) ∧ Below w.heap.size w w' := by
  obtain ⟨_, ⟨_, h0⟩ | ⟨g, off, cap, rfl, hn, hcap, hc⟩⟩ := hr
  · omega
  have hf0 : FileAt (w.alloc (.cells (fileCells x same sys).toArray 30)) 30 w.heap.size x same sys := ⟨heap_alloc_new w _, hx, hs⟩
  have hf1 := hf0.alloc (.cells #[.slice (some ⟨g, off, none⟩) 31 cap, .bool same, .slice q sn sc] 32)
  have hB0 := Blk.new (w.alloc (.cells (fileCells x same sys).toArray 30)) 32 [.slice (some ⟨g, off, none⟩) 31 cap, .bool same, .slice q sn sc]
  rw [World.size_alloc] at hB0
  have hb2 := below_alloc (below_alloc (Below.refl w.heap.size w) (.cells (fileCells x same sys).toArray 30)) (.cells #[.slice (some ⟨g, off, none⟩) 31 cap, .bool same, .slice q sn sc] 32)
  have hcu : ∀ j, j < 31 → w.cell? ⟨g, off + j, none⟩ = some (.int .u64 (x.getD j 0)) := fun j hj => (hc j hj).trans (by simp [u64s, List.getD, List.getElem?_eq_getElem (show j < x.length by omega)])
  have HC := Lib.hid hcu
  have HF := Lib.hid hf1
  have HB := Lib.hid hB0
  have HW := Lib.hid hb2
  have HX := Lib.hid hx
  clear hc hcu hf0 hf1 hB0 hb2 hx hs
  generalize hcs : (fileCells x same sys).toArray = cs at *
  go_enter Try.func13, Try.ntmps13
  go_wp2_with fail
  refine (fshow_any _ _ HF.out).mono ?_
  rintro e w1 ⟨l, rfl, hl, hb⟩
  obtain ⟨g2, c2, rfl, hg2, hg2s, _, hc2, hcell, hfree⟩ := own_open hl (by omega)
  have hf := (HF.out.below hb).flag
  have hB1 := HB.out.below hb
  have b0 := hB1.cell 0
  have b1 := hB1.cell 1
  simp only [List.getElem?_cons_zero, List.getElem?_cons_succ] at b0 b1
  have HF1 := Lib.hid (HF.out.below hb)
  have HB1 := Lib.hid hB1
  have HW1 := Lib.hid (below_trans HW.out hb)
  have HR := Lib.hid hl
  clear hl hcell hfree hb hB1
  unfold maxLen at hcap hc2
  have HL := Lib.hid (fun j (hj : j < 31) => show w1.cell? ⟨g2, 0 + j, none⟩ = some (.int .u64 (x.getD j 0)) from by
    rw [Nat.zero_add, HR.out.cellAt j (by omega)]
    simp [u64s, List.getD, List.getElem?_eq_getElem (show j < x.length by have := HX.out; omega)])
  have HC1 := Lib.hid (fun j (hj : j < 31) => cell_below (HC.out j hj) HW1.out)
  go_wp2_with fail
  go_loopw [6] (fun i wr => ∃ k m : Nat, k ≤ 31 ∧ i = .int .i64 k ∧ wr = w1.drewN m) (fun i _ => 31 - (intOf i).toNat)
  case atStart => exact ⟨0, 0, by omega, rfl, rfl⟩
  case round =>
    obtain ⟨k, m, hk, rfl, rfl⟩ := hrel
    by_cases hlt : k < 31
    · have l0 := HL.out k hlt
      have l1 := HC1.out k hlt
      have hg := fun n : Nat => fget_any w.heap.size (k : Int) (w1.drewN n) (show FileAt (w1.drewN n) 30 w.heap.size x same sys from HF1.out)
      rw [getX_in x k hlt] at hg
      have HG := Lib.hid hg
      clear hg
      generalize x.getD k 0 = u at *
      have hkz : (k : Int) < 31 := by omega
      have hk0 : (0 : Int) ≤ k := by omega
      rw [Nat.zero_add] at l0
      go_wp2_with fail
      go_quiet ((go_at_call 10; exact quiet_add (HG.out _)))
      go_wp2_with fail
      go_roundw
      case rel => exact ⟨k + 1, m + nq, by omega, by go_num, rfl⟩
      case measure => simp [intOf]; omega
    · obtain rfl : k = 31 := by omega
      clear hlt hk
      go_wp2
      go_ret
      exact ⟨rfl, below_drewN HW1.out _⟩
end Go.Proofs.Ytikflhigenijdaa
