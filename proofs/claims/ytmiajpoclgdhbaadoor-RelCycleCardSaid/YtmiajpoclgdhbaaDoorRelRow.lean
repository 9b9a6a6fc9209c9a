/- rows of bits: has, set, join, each. -/
import Derived.Test.YtmiajpoclgdhbaaDoorRelBits
import Derived.Test.YtmiajpoclgdhbaaDoorAppS
namespace Go.Proofs.YtmiajpoclgdhbaaDoor
open Go.RowKit
set_option linter.unusedVariables false

theorem grown_trans {a b c : World} {row : Option Nat} (h : a.grownBy b row) (k : b.grownBy c row) : a.grownBy c row :=
  ⟨k.os.trans h.os, k.tape.trans h.tape, k.output.trans h.output, Nat.le_trans h.size k.size, fun i hi hne => (k.block i (Nat.lt_of_lt_of_le hi h.size) hne).trans (h.block i hi hne)⟩
theorem grown_set (w : World) (p : Addr) (v : Value) : w.grownBy (w.setCell p v) (some p.block) :=
  ⟨rfl, rfl, rfl, by simp, fun k _ hne => Below.heap_setCell w p v k (fun e => hne (by rw [e]))⟩
theorem grown_drew (w : World) (row : Option Nat) (n : Nat) : w.grownBy (w.drewN n) row := ⟨rfl, rfl, rfl, Nat.le_refl _, fun _ _ _ => rfl⟩

/-- A block of words: these ahead. -/
def Wds (w : World) (g : Nat) (ws : List Nat) : Prop :=
  ∃ cur : Array Value, w.heap[g]? = some (.cells cur 67 (0, 0)) ∧ ws.length ≤ cur.size ∧ (∀ j, j < ws.length → cur[j]? = some (.int .u64 (ws.getD j 0 : Nat))) ∧ ∀ j, ws.getD j 0 < 18446744073709551616
section
variable {w w' : World} {g : Nat} {ws : List Nat}
theorem Wds.lt (h : Wds w g ws) : g < w.heap.size := by obtain ⟨cur, h, _⟩ := h; exact (Array.getElem?_eq_some_iff.1 h).1
theorem Wds.cell (h : Wds w g ws) {j : Nat} (hj : j < ws.length) : w.cell? ⟨g, j, none⟩ = some (.int .u64 (ws.getD j 0 : Nat)) := by
  obtain ⟨cur, h, _, hc, _⟩ := h
  rw [cell_of_row _ _ _ _ _ _ h]; exact hc j hj
theorem Wds.free (h : Wds w g ws) (j : Nat) : w.frozen? ⟨g, j, none⟩ = false := by
  obtain ⟨cur, h, _⟩ := h
  exact frozen_of_row w g j _ _ h
theorem Wds.wlt (h : Wds w g ws) (j : Nat) : ws.getD j 0 < 18446744073709551616 := by obtain ⟨cur, _, _, _, h⟩ := h; exact h j
theorem Wds.kept {row : Option Nat} (h : Wds w g ws) (hg : w.grownBy w' row) (hne : some g ≠ row) : Wds w' g ws := by
  have hl := h.lt
  obtain ⟨cur, h, r⟩ := h
  exact ⟨cur, (hg.block g hl hne).trans h, r⟩
theorem Wds.below {B : Nat} (h : Wds w g ws) (hb : Below B w w') (hB : g < B) : Wds w' g ws := by
  obtain ⟨cur, h, r⟩ := h
  exact ⟨cur, (hb.block g hB).trans h, r⟩
theorem Wds.dn (h : Wds w g ws) (n : Nat) : Wds (w.drewN n) g ws := h
theorem Wds.set (h : Wds w g ws) {j : Nat} (hj : j < ws.length) (x : Nat) (hx : x < 18446744073709551616) : Wds (w.setCell ⟨g, j, none⟩ (.int .u64 x)) g (ws.set j x) := by
  obtain ⟨cur, h, hl, hc, hw⟩ := h
  refine ⟨cur.setIfInBounds j (.int .u64 x), ?_, by simpa using hl, fun i hi => ?_, fun i => ?_⟩
  · rw [heap_setCell_same w g j _ _ _ h]
  · have hi' : i < ws.length := by simpa using hi
    by_cases e : j = i
    · subst e
      rw [Array.getElem?_setIfInBounds_self_of_lt (by omega), List.getD_eq_getElem?_getD, List.getElem?_set_self hi']; rfl
    · rw [Array.getElem?_setIfInBounds_ne e, hc i hi', List.getD_eq_getElem?_getD, List.getD_eq_getElem?_getD, List.getElem?_set_ne e]
  · rw [List.getD_eq_getElem?_getD]
    by_cases e : j = i
    · subst e; rw [List.getElem?_set_self hj]; exact hx
    · rw [List.getElem?_set_ne e, ← List.getD_eq_getElem?_getD]; exact hw i
end

theorem rowhas_any (g o x b : Nat) (w : World) (hb : b < 128) (hx : x < 18446744073709551616) (hc : w.cell? ⟨g, o + b / 64, none⟩ = some (.int .u64 x)) :
    Calls Tryd.prog 49 #[.pointer (some ⟨g, o, none⟩), .int .i64 b] w fun e w' => e = .returned (.bool (x.testBit (b % 64))) ∧ w = w' := by
  have HT := Lib.hid (testBit_and1 x (b % 64) hx)
  go_enter Tryd.func49, Tryd.ntmps49
  go_wp2_with fail
  go_ret
  exact ⟨by rw [HT.out]; rfl, rfl⟩

def setW (ws : List Nat) (j b : Nat) : List Nat := ws.set j (ws.getD j 0 ||| 2 ^ b)
set_option maxHeartbeats 800000 in
theorem rowset_any (g o b : Nat) (ws : List Nat) (w : World) (hw : Wds w g ws) (hb : b < 128) (ho : o + b / 64 < ws.length) :
    Calls Tryd.prog 53 #[.pointer (some ⟨g, o, none⟩), .int .i64 b] w fun e w' => e = .returned (.tuple #[]) ∧ Wds w' g (setW ws (o + b / 64) (b % 64)) ∧ w.grownBy w' (some g) := by
  have hc := hw.cell ho
  have hf := hw.free (o + b / 64)
  have hx := hw.wlt (o + b / 64)
  have HO := Lib.hid (or_bit (ws.getD (o + b / 64) 0) (b % 64) hx (by omega))
  have HS := Lib.hid (hw.set ho (ws.getD (o + b / 64) 0 ||| 2 ^ (b % 64)) (or_lt _ _ hx (pow_lt _ (by omega))))
  have hq0 : (0 : Int) ≤ (b : Int) / 64 := by omega
  have hq2 : (b : Int) / 64 < 2 := by omega
  clear hw
  unfold setW
  generalize ws.getD (o + b / 64) 0 = x at *
  go_enter Tryd.func53, Tryd.ntmps53
  go_wp2_with fail
  go_region
  go_wp2_with fail
  rw [HO.out]
  go_end0
  exact ⟨rfl, HS.out, grown_drew _ _ 1 |> grown_trans (grown_set w _ _)⟩

/-- A row with another's bits, as far as k words. -/
def joinTo (ws : List Nat) (o y0 y1 : Nat) : Nat → List Nat
  | 0 => ws
  | 1 => ws.set o (ws.getD o 0 ||| y0)
  | _ => (ws.set o (ws.getD o 0 ||| y0)).set (o + 1) (ws.getD (o + 1) 0 ||| y1)
theorem joinTo_len (ws : List Nat) (o y0 y1 k : Nat) : (joinTo ws o y0 y1 k).length = ws.length := by unfold joinTo; split <;> simp
def pickY (y0 y1 k : Nat) : Nat := if k = 0 then y0 else y1
theorem joinTo_step (ws : List Nat) (o y0 y1 k : Nat) (hk : k < 2) : joinTo ws o y0 y1 (k + 1) = (joinTo ws o y0 y1 k).set (o + k) ((joinTo ws o y0 y1 k).getD (o + k) 0 ||| pickY y0 y1 k) := by
  match k, hk with
  | 0, _ => rfl
  | 1, _ =>
    show (ws.set o (ws.getD o 0 ||| y0)).set (o + 1) (ws.getD (o + 1) 0 ||| y1) = (ws.set o (ws.getD o 0 ||| y0)).set (o + 1) ((ws.set o (ws.getD o 0 ||| y0)).getD (o + 1) 0 ||| y1)
    rw [List.getD_eq_getElem?_getD (l := ws.set _ _), List.getElem?_set_ne (by omega), ← List.getD_eq_getElem?_getD]
set_option maxHeartbeats 800000 in
theorem join_any (g o y0 y1 : Nat) (ws : List Nat) (w : World) (hw : Wds w g ws) (ho : o + 1 < ws.length) (h0 : y0 < 18446744073709551616) (h1 : y1 < 18446744073709551616) :
    Calls Tryd.prog 52 #[.pointer (some ⟨g, o, none⟩), .agg #[.int .u64 y0, .int .u64 y1]] w fun e w' => (∃ b, e = .returned (.bool b)) ∧ Wds w' g (joinTo ws o y0 y1 2) ∧ w.grownBy w' (some g) := by
  have HB := Lib.hid (show Blk (w.alloc (.cells #[.int .u64 (y0 : Nat), .int .u64 (y1 : Nat)] 67)) 67 w.heap.size [.int .u64 (y0 : Nat), .int .u64 (y1 : Nat)] from Blk.new _ _ _)
  have HW := Lib.hid (show Wds (w.alloc (.cells #[.int .u64 (y0 : Nat), .int .u64 (y1 : Nat)] 67)) g ws from hw.kept (World.grownBy_alloc w _ none) (by simp))
  have HG := Lib.hid (World.grownBy_alloc w (.cells #[.int .u64 (y0 : Nat), .int .u64 (y1 : Nat)] 67) (some g))
  have hgl : g < w.heap.size := hw.lt
  clear hw
  go_enter Tryd.func52, Tryd.ntmps52
  go_wp2_with fail
  obtain ⟨w1, hw1⟩ : ∃ w1, w1 = w.alloc (.cells #[.int .u64 (y0 : Nat), .int .u64 (y1 : Nat)] 67) := ⟨_, rfl⟩
  rw [← hw1] at HB HW HG ⊢
  clear hw1
  go_loopw [5, 8] (fun m i wr => ∃ (k : Nat) (b : Bool), k ≤ 2 ∧ i = .int .i64 k ∧ m = .bool b ∧ Wds wr g (joinTo ws o y0 y1 k) ∧ w.grownBy wr (some g) ∧ Blk wr 67 w.heap.size [.int .u64 (y0 : Nat), .int .u64 (y1 : Nat)]) (fun _ i _ => 2 - (intOf i).toNat)
  case atStart => exact ⟨0, false, by omega, rfl, rfl, HW.out, HG.out, HB.out⟩
  case round =>
    clear HW HG HB
    obtain ⟨k, b, hk, rfl, rfl, hW, hG, hB⟩ := hrel
    obtain ⟨wo, rfl⟩ : ∃ wo : World, wo = wr := ⟨_, rfl⟩
    by_cases hlt : k < 2
    · have hc := hW.cell (j := o + k) (by rw [joinTo_len]; omega)
      have hf := hW.free (o + k)
      have hx := hW.wlt (o + k)
      have hy : w1.heap.size = w1.heap.size := rfl
      have hd : wo.cell? ⟨w.heap.size, k, none⟩ = some (.int .u64 (pickY y0 y1 k : Nat)) := by
        rw [hB.cell k]
        match k, hlt with
        | 0, _ => rfl
        | 1, _ => rfl
      have hpy : pickY y0 y1 k < 18446744073709551616 := by unfold pickY; split <;> omega
      have HS := Lib.hid (hW.set (j := o + k) (by rw [joinTo_len]; omega) ((joinTo ws o y0 y1 k).getD (o + k) 0 ||| pickY y0 y1 k) (or_lt _ _ hx hpy))
      rw [← joinTo_step ws o y0 y1 k hlt] at HS
      have HO := Lib.hid (or_words _ _ hx hpy)
      have hki : (0 : Int) ≤ k := by omega
      have hk2 : (k : Int) < 2 := by omega
      have HGS := Lib.hid (fun n p v => grown_trans (grown_dn hG n) (grown_set (wo.drewN n) ⟨g, p, none⟩ v))
      have HBS := Lib.hid (fun p v => hB.other (p := ⟨g, p, none⟩) (by simp; omega) v)
      clear hW hG hB hy
      generalize (joinTo ws o y0 y1 k).getD (o + k) 0 = x at *
      generalize pickY y0 y1 k = y at *
      have hor : bits BinOp.or IntKind.u64 (x : Int) (y : Int) = ((x ||| y : Nat) : Int) := HO.out
      generalize x ||| y = z at *
      cases b
      all_goals
        go_wp2_with fail
        go_quiet (fail)
        go_wp2_with fail
        go_roundw
        case rel => exact ⟨k + 1, _, by omega, by go_num, rfl, HS.out, HGS.out _ _ _, HBS.out _ _⟩
        case measure => simp [intOf]; omega
    · obtain rfl : k = 2 := by omega
      have HW := Lib.hid hW
      have HG := Lib.hid hG
      clear hW hG hB
      go_wp2_with fail
      go_ret
      exact ⟨⟨_, rfl⟩, HW.out, HG.out⟩

/-- The library's table stands. -/
def TabW (w : World) : Prop := 0 < w.heap.size ∧ ∀ j, j < 64 → w.cell? ⟨0, j, none⟩ = some (.int .u8 ((Lib.deBruijn64tab.getD j 0 : Nat) : Int))
theorem TabW.below {w w' : World} {B : Nat} (h : TabW w) (hb : Below B w w') (hB : 0 < B) : TabW w' := ⟨Nat.lt_of_lt_of_le h.1 hb.size, fun j hj => (hb.cell (p := ⟨0, j, none⟩) hB).trans (h.2 j hj)⟩
theorem TabW.belowS {w w' : World} (h : TabW w) (hb : Below w.heap.size w w') : TabW w' := h.below hb h.1
theorem TabW.kept {w w' : World} {g : Nat} (h : TabW w) (hg : w.grownBy w' (some g)) (hne : g ≠ 0) : TabW w' := ⟨Nat.lt_of_lt_of_le h.1 hg.size, fun j hj => hg.cell (h.2 j hj) (by simp; omega)⟩
theorem TabW.dn {w : World} (h : TabW w) (n : Nat) : TabW (w.drewN n) := h

theorem tz_core (x k idx : Nat) (w : World) (hx0 : ((x : Int) == 0) = false)
    (key : IntKind.u64.wrap (bits BinOp.and IntKind.u64 (x : Int) (IntKind.u64.wrap (-(x : Int))) * 285870213051353865) / 288230376151711744 = (idx : Int))
    (hi : idx < 64) (hk : k < 64) (hcell : w.cell? ⟨0, idx, none⟩ = some (.int .u8 k)) :
    Calls Tryd.prog 62 #[.int .u64 x] w fun e w' => e = .returned (.int .i64 k) ∧ w = w' := by
  go_enter Tryd.func62, Tryd.ntmps62
  go_wp2_with (simp only [key])
  go_ret
  exact ⟨rfl, rfl⟩
theorem tz_any (x : Nat) (w : World) (h0 : x ≠ 0) (hx : x < 18446744073709551616) (hT : TabW w) :
    Calls Tryd.prog 62 #[.int .u64 x] w fun e w' => e = .returned (.int .i64 (Lib.ctz 64 x : Nat)) ∧ w = w' := by
  obtain ⟨hlow, hk⟩ := Lib.lowest_bit 64 x h0 hx
  obtain ⟨hi, htab⟩ := Lib.deBruijn64_at _ hk
  have hcell := hT.2 _ hi
  rw [htab] at hcell
  exact tz_core x _ _ w (by simp; omega) (tz64_key x _ hx h0 hlow) hi hk hcell

theorem rowix0 (y0 y1 : Int) (w : World) : (Instr.index 67 (.agg #[.int .u64 y0, .int .u64 y1]) (.int .i64 0)).run Tryd.prog w = .ok (.int .u64 y0) w := by
  simp [Instr.index, run_underlying Tryd.underlying67, asIntOf, go_sem]
theorem rowix1 (y0 y1 : Int) (w : World) : (Instr.index 67 (.agg #[.int .u64 y0, .int .u64 y1]) (.int .i64 1)).run Tryd.prog w = .ok (.int .u64 y1) w := by
  simp [Instr.index, run_underlying Tryd.underlying67, asIntOf, go_sem]
/-- The places of a row's bits, rising. -/
def rowL (y0 y1 : Nat) : List Nat := bitsL y0 ++ (bitsL y1).map (64 + ·)
def wordAt (y0 y1 k : Nat) : Nat := if k = 0 then y0 else y1
theorem eli : El Tryd.prog 33 3 (.int .i64 0) 1 8 := ⟨Tryd.underlying33, by kernel_rfl⟩
def EInv (y0 y1 : Nat) (w : World) (k : Nat) (v : Value) (acc : List Nat) (wr : World) : Prop :=
  (acc ++ (if k = 0 then bitsL y0 else []) ++ (if k < 2 then (bitsL y1).map (64 + ·) else []) = rowL y0 y1) ∧ wr.ownsRow (w.heap.size + 1) 3 1 v acc.length (acc.map fun b => .int .i64 (b : Nat)) ∧ Below w.heap.size w wr ∧ TabW wr ∧ w.heap.size + 1 ≤ wr.heap.size
/-- Inside a word. -/
def EIn (y0 y1 : Nat) (w : World) (k x : Nat) (v : Value) (acc : List Nat) (wr : World) : Prop :=
  x < 18446744073709551616 ∧ (acc ++ (bitsL x).map (64 * k + ·) ++ (if k < 1 then (bitsL y1).map (64 + ·) else []) = rowL y0 y1) ∧ wr.ownsRow (w.heap.size + 1) 3 1 v acc.length (acc.map fun b => .int .i64 (b : Nat)) ∧ Below w.heap.size w wr ∧ TabW wr ∧ w.heap.size + 1 ≤ wr.heap.size
theorem EIn.start {y0 y1 : Nat} {w wr : World} {k : Nat} {v : Value} {acc : List Nat} (h : EInv y0 y1 w k v acc wr) (hk : k < 2) (h0 : y0 < 18446744073709551616) (h1 : y1 < 18446744073709551616) : EIn y0 y1 w k (wordAt y0 y1 k) v acc wr := by
  obtain ⟨e, r⟩ := h
  refine ⟨by unfold wordAt; split <;> omega, ?_, r⟩
  match k, hk with
  | 0, _ => rw [← e]; simp [wordAt]
  | 1, _ => rw [← e]; simp [wordAt]
theorem EIn.done {y0 y1 : Nat} {w wr : World} {k : Nat} {v : Value} {acc : List Nat} (h : EIn y0 y1 w k 0 v acc wr) (hk : k < 2) : EInv y0 y1 w (k + 1) v acc wr := by
  obtain ⟨_, e, r⟩ := h
  refine ⟨?_, r⟩
  rw [← e, bitsL_zero]
  match k, hk with
  | 0, _ => simp
  | 1, _ => simp
theorem EIn.step {y0 y1 : Nat} {w wr w' : World} {k x : Nat} {v v' : Value} {acc : List Nat} (h : EIn y0 y1 w k x v acc wr) (h0 : x ≠ 0)
    (ho : w'.ownsRow (w.heap.size + 1) 3 1 v' (acc.length + 1) (acc.map (fun b => Value.int .i64 (b : Nat)) ++ [.int .i64 ((64 * k + Lib.ctz 64 x : Nat) : Int)])) (hb : Below (w.heap.size + 1) wr w') : EIn y0 y1 w k (x &&& (x - 1)) v' (acc ++ [64 * k + Lib.ctz 64 x]) w' := by
  obtain ⟨hx, e, o, b, t, z⟩ := h
  refine ⟨and_pred_lt x hx, ?_, by rw [List.length_append, List.map_append]; exact ho, b.trans (hb.mono (by omega)), t.below hb (by omega), Nat.le_trans z hb.size⟩
  rw [← e, bitsL_step x h0 hx]
  simp
theorem EIn.accLen {y0 y1 : Nat} {w wr : World} {k x : Nat} {v : Value} {acc : List Nat} (h : EIn y0 y1 w k x v acc wr) : acc.length ≤ 128 := by
  have := congrArg List.length h.2.1
  have h1 := bitsL_len y0
  have h2 := bitsL_len y1
  simp only [List.length_append, rowL, List.length_map] at this
  omega

set_option maxHeartbeats 1600000 in
theorem each_any (y0 y1 : Nat) (w : World) (h0 : y0 < 18446744073709551616) (h1 : y1 < 18446744073709551616) (hT : TabW w) :
    Calls Tryd.prog 48 #[.agg #[.int .u64 y0, .int .u64 y1]] w fun e w' => ∃ v, e = .returned v ∧ w'.ownsRow w.heap.size 3 1 v (rowL y0 y1).length ((rowL y0 y1).map fun b => .int .i64 (b : Nat)) ∧ Below w.heap.size w w' := by
  have H0 := Lib.hid (show EInv y0 y1 w 0 (.slice none 0 0) [] (w.alloc (.cells #[.int .u64 (y0 : Nat), .int .u64 (y1 : Nat)] 67)) from
    ⟨by simp [rowL], World.ownsRow_nil _ _ _ _, below_alloc (Below.refl _ _) _, hT.belowS (below_alloc (Below.refl _ _) _), by simp⟩)
  clear hT
  go_enter Tryd.func48, Tryd.ntmps48
  go_wp2_with fail
  obtain ⟨w1, hw1⟩ : ∃ w1, w1 = w.alloc (.cells #[.int .u64 (y0 : Nat), .int .u64 (y1 : Nat)] 67) := ⟨_, rfl⟩
  rw [← hw1] at H0 ⊢
  clear hw1
  go_loopw [3, 7] (fun v i wr => ∃ (k : Nat) (acc : List Nat), k ≤ 2 ∧ i = .int .i64 k ∧ EInv y0 y1 w k v acc wr) (fun _ i _ => 2 - (intOf i).toNat)
  case atStart => exact ⟨0, [], by omega, rfl, H0.out⟩
  case round =>
    clear H0
    obtain ⟨k, acc, hk, rfl, hI⟩ := hrel
    obtain ⟨wo, rfl⟩ : ∃ wo : World, wo = wr := ⟨_, rfl⟩
    by_cases hlt : k < 2
    · have HI := Lib.hid (EIn.start hI hlt h0 h1)
      clear hI
      obtain rfl | rfl : k = 0 ∨ k = 1 := by omega
      · skip
        have HW : Hid (wordAt y0 y1 0 = y0) := rfl
        have hix := fun w => rowix0 (y0 : Int) (y1 : Int) w
        simp only [show ((0 : Nat) : Int) = 0 from rfl]
        rw [HW.out] at HI
        go_wp2_with fail
        go_loopw [3, 5] (fun v x wr => ∃ (n : Nat) (acc : List Nat), x = .int .u64 n ∧ EIn y0 y1 w 0 n v acc wr) (fun _ x _ => (intOf x).toNat)
        case atStart => exact ⟨y0, acc, rfl, HI.out⟩
        case round =>
          clear HI HW
          obtain ⟨n, acc, rfl, hI⟩ := hrel
          obtain ⟨wo, rfl⟩ : ∃ wo : World, wo = wr := ⟨_, rfl⟩
          by_cases hn : n = 0
          · subst hn
            have HI := Lib.hid (EIn.done hI (by omega))
            clear hI
            go_wp2_with fail
            go_roundw
            case rel => exact ⟨1, acc, by omega, by go_num, HI.out⟩
            case measure => simp [intOf]
          · have HN := Lib.hid hn
            have hn0 : ((n : Int) == 0) = false := by simp; omega
            have hn1 : ((n : Int) != 0) = true := by simp; omega
            have hnx := hI.1
            have hal := hI.accLen
            obtain ⟨p, c, rfl, _⟩ := own_form hI.2.2.1
            have HI := Lib.hid hI
            have hz2 := hI.2.2.2.2.2
            have HP := Lib.hid (and_pred n hn hnx)
            have hdec := and_pred_dec n hn hnx
            have hc64 := (ctz_facts n hn hnx).1
            have HTZ := Lib.hid (fun w1 (h : TabW w1) => tz_any n w1 hn hnx h)
            have HS := Lib.hid (fun v' w' => EIn.step (v' := v') (w' := w') hI hn)
            clear hI hn hnx
            generalize n &&& (n - 1) = n2 at *
            generalize Lib.ctz 64 n = tz at *
            go_wp2_with (first | (go_at_call 62; refine (HTZ.out _ HI.out.2.2.2.2.1).mono ?_; rintro e w' ⟨rfl, rfl⟩) | (at_builtin; refine app1s rfl _ _ 33 rfl (w.heap.size + 1) 3 _ 1 8 eli rfl (by decide) _ _ _ rfl HI.out.2.2.1 [.int .i64 (tz : Nat)] rfl _ rfl rfl (by simp [Value.oneCell']) ?c1 ?c2 ?c3 ?_))
            case c1 => unfold maxLen; omega
            case c2 => omega
            case c3 => omega
            intro v' w' ho' hg' hb'
            have HI2 := Lib.hid (HS.out v' w' (by first | exact ho' | (rw [show ((64 * 0 + tz : Nat) : Int) = (tz : Int) by omega]; exact ho') | (rw [show ((64 * 1 + tz : Nat) : Int) = 64 + (tz : Int) by omega]; exact ho')) hb')
            clear ho' hg' hb' HI HS
            go_wp2
            rw [HP.out]
            go_roundw
            case rel => exact ⟨n2, _, rfl, HI2.out⟩
            case measure => simp [intOf]; omega
      · skip
        have HW : Hid (wordAt y0 y1 1 = y1) := rfl
        have hix := fun w => rowix1 (y0 : Int) (y1 : Int) w
        simp only [show ((1 : Nat) : Int) = 1 from rfl]
        rw [HW.out] at HI
        go_wp2_with fail
        go_loopw [3, 5] (fun v x wr => ∃ (n : Nat) (acc : List Nat), x = .int .u64 n ∧ EIn y0 y1 w 1 n v acc wr) (fun _ x _ => (intOf x).toNat)
        case atStart => exact ⟨y1, acc, rfl, HI.out⟩
        case round =>
          clear HI HW
          obtain ⟨n, acc, rfl, hI⟩ := hrel
          obtain ⟨wo, rfl⟩ : ∃ wo : World, wo = wr := ⟨_, rfl⟩
          by_cases hn : n = 0
          · subst hn
            have HI := Lib.hid (EIn.done hI (by omega))
            clear hI
            go_wp2_with fail
            go_roundw
            case rel => exact ⟨2, acc, by omega, by go_num, HI.out⟩
            case measure => simp [intOf]
          · have HN := Lib.hid hn
            have hn0 : ((n : Int) == 0) = false := by simp; omega
            have hn1 : ((n : Int) != 0) = true := by simp; omega
            have hnx := hI.1
            have hal := hI.accLen
            obtain ⟨p, c, rfl, _⟩ := own_form hI.2.2.1
            have HI := Lib.hid hI
            have hz2 := hI.2.2.2.2.2
            have HP := Lib.hid (and_pred n hn hnx)
            have hdec := and_pred_dec n hn hnx
            have hc64 := (ctz_facts n hn hnx).1
            have HTZ := Lib.hid (fun w1 (h : TabW w1) => tz_any n w1 hn hnx h)
            have HS := Lib.hid (fun v' w' => EIn.step (v' := v') (w' := w') hI hn)
            clear hI hn hnx
            generalize n &&& (n - 1) = n2 at *
            generalize Lib.ctz 64 n = tz at *
            go_wp2_with (first | (go_at_call 62; refine (HTZ.out _ HI.out.2.2.2.2.1).mono ?_; rintro e w' ⟨rfl, rfl⟩) | (at_builtin; refine app1s rfl _ _ 33 rfl (w.heap.size + 1) 3 _ 1 8 eli rfl (by decide) _ _ _ rfl HI.out.2.2.1 [.int .i64 (64 + (tz : Int))] rfl _ rfl rfl (by simp [Value.oneCell']) ?c1 ?c2 ?c3 ?_))
            case c1 => unfold maxLen; omega
            case c2 => omega
            case c3 => omega
            intro v' w' ho' hg' hb'
            have HI2 := Lib.hid (HS.out v' w' (by first | exact ho' | (rw [show ((64 * 0 + tz : Nat) : Int) = (tz : Int) by omega]; exact ho') | (rw [show ((64 * 1 + tz : Nat) : Int) = 64 + (tz : Int) by omega]; exact ho')) hb')
            clear ho' hg' hb' HI HS
            go_wp2
            rw [HP.out]
            go_roundw
            case rel => exact ⟨n2, _, rfl, HI2.out⟩
            case measure => simp [intOf]; omega
    · obtain rfl : k = 2 := by omega
      have HI := Lib.hid hI
      clear hI
      go_wp2_with fail
      go_ret
      obtain ⟨e, o, b, t⟩ := HI.out
      simp only [if_neg (show ¬ 2 < 2 by omega), if_neg (show ¬ 2 = 0 by omega), List.append_nil] at e
      subst e
      exact ⟨_, rfl, ownsRow_mono o (by omega), b⟩
end Go.Proofs.YtmiajpoclgdhbaaDoor
