/- Tables of marks: Empty, Of, Has of the reference. -/
import Derived.Test.YtmiajpoclgdhbaaDoorRelOf
import Derived.Test.YtmiajpoclgdhbaaDoorRelOrder
namespace Go.Proofs.YtmiajpoclgdhbaaDoor
open Go.RowKit
set_option linter.unusedVariables false

def outerV (g n : Nat) (k : Nat) : Value := .slice (some ⟨g + 1 + k, 0, none⟩) n n
/-- A table that a call has made: its rows are the blocks behind its own. -/
def TabAt (w : World) (g n : Nat) (T : Nat → Nat → Bool) : Prop :=
  Blk w 23 g ((List.range n).map (outerV g n)) ∧ ∀ i, i < n → Blk w 4 (g + 1 + i) ((List.range n).map fun k => .bool (T i k))
def updT (T : Nat → Nat → Bool) (a b : Nat) (v : Bool) : Nat → Nat → Bool := fun i k => if i = a ∧ k = b then v else T i k
section
variable {w w' : World} {g n : Nat} {T : Nat → Nat → Bool}
theorem TabAt.below {B : Nat} (h : TabAt w g n T) (hb : Below B w w') (hB : g + 1 + n ≤ B) : TabAt w' g n T :=
  ⟨h.1.belowB hb (by omega), fun i hi => (h.2 i hi).belowB hb (by omega)⟩
theorem TabAt.keep (h : TabAt w g n T) (hb : Below w.heap.size w w') : TabAt w' g n T := ⟨h.1.below hb, fun i hi => (h.2 i hi).below hb⟩
theorem TabAt.dn (h : TabAt w g n T) (k : Nat) : TabAt (w.drewN k) g n T := h
theorem TabAt.kept (h : TabAt w g n T) {b : Nat} (hg : w.grownBy w' (some b)) (hb : b < g ∨ g + 1 + n ≤ b) : TabAt w' g n T :=
  ⟨h.1.kept hg (by simp; omega), fun i hi => (h.2 i hi).kept hg (by simp; omega)⟩
theorem TabAt.outer (h : TabAt w g n T) {i : Nat} (hi : i < n) : w.cell? ⟨g, i, none⟩ = some (.slice (some ⟨g + 1 + i, 0, none⟩) n n) := by
  rw [h.1.cell i]; simp [hi, outerV]
theorem TabAt.mark (h : TabAt w g n T) {i k : Nat} (hi : i < n) (hk : k < n) : w.cell? ⟨g + 1 + i, k, none⟩ = some (.bool (T i k)) := by
  rw [(h.2 i hi).cell k]; simp [hk]
theorem TabAt.free (h : TabAt w g n T) {i : Nat} (hi : i < n) (k : Nat) : w.frozen? ⟨g + 1 + i, k, none⟩ = false := (h.2 i hi).free k
theorem TabAt.set (h : TabAt w g n T) {a b : Nat} (ha : a < n) (v : Bool) : TabAt (w.setCell ⟨g + 1 + a, b, none⟩ (.bool v)) g n (updT T a b v) := by
  refine ⟨h.1.other (by simp; omega) _, fun i hi => ?_⟩
  by_cases e : i = a
  · subst e
    have := (h.2 i hi).set b (.bool v)
    have e2 : ((List.range n).map fun k => Value.bool (T i k)).set b (.bool v) = (List.range n).map fun k => .bool (updT T i b v i k) := by
      apply List.ext_getElem
      · simp
      · intro k h1 h2
        rw [List.getElem_set]
        simp only [List.getElem_map, List.getElem_range]
        by_cases e : b = k
        · subst e; simp [updT]
        · rw [if_neg e]
          unfold updT
          rw [if_neg (by omega)]
    rw [← e2]; exact this
  · have := (h.2 i hi).other (p := ⟨g + 1 + a, b, none⟩) (by simp; omega) (.bool v)
    have e2 : ((List.range n).map fun k => Value.bool (T i k)) = (List.range n).map fun k => .bool (updT T a b v i k) := by
      apply List.map_congr_left; intro k _; simp [updT, e]
    rw [← e2]; exact this
theorem TabAt.congr (h : TabAt w g n T) {U : Nat → Nat → Bool} (e : ∀ i k, i < n → k < n → T i k = U i k) : TabAt w g n U := by
  refine ⟨h.1, fun i hi => ?_⟩
  have : ((List.range n).map fun k => Value.bool (T i k)) = (List.range n).map fun k => .bool (U i k) := by
    apply List.map_congr_left; intro k hk; rw [e i k hi (List.mem_range.1 hk)]
  rw [← this]; exact h.2 i hi
theorem TabAt.lt (h : TabAt w g n T) : g < w.heap.size := h.1.lt
end
theorem bools_false (n : Nat) : (List.replicate n false).map Value.bool = (List.range n).map fun _ => Value.bool false := by
  apply List.ext_getElem <;> simp
theorem eltab : El Tryd.prog 27 23 (.slice none 0 0) 1 24 := ⟨Tryd.underlying27, by kernel_rfl⟩
theorem mk_tab (n : Nat) (h : n ≤ 1000000) (w : World) : (Instr.makeSlice 27 (.int .i64 (n : Int)) (.int .i64 (n : Int))).run Tryd.prog w = .ok (.slice (some ⟨w.heap.size, 0, none⟩) n n) (w.alloc (.cells (madeCells #[.slice none 0 0] n) 23)) := by
  have := mk_run eltab n (by omega) (by omega) w
  rw [Nat.mul_one] at this
  exact this
def outTo (g n i k : Nat) : Value := if k < i then outerV g n k else .slice none 0 0
theorem made_outer (w : World) (n : Nat) : Blk (w.alloc (.cells (madeCells #[.slice none 0 0] n) 23)) 23 w.heap.size ((List.range n).map (outTo w.heap.size n 0)) := by
  have e : madeCells #[.slice none 0 0] n = ((List.range n).map (outTo w.heap.size n 0)).toArray := by
    apply Array.toList_inj.1
    rw [toList_madeCells_one]
    apply List.ext_getElem
    · simp
    · intro k h1 h2; simp [outTo]
  rw [e]; exact Blk.new _ _ _
theorem outTo_set (g n i : Nat) : ((List.range n).map (outTo g n i)).set i (outerV g n i) = (List.range n).map (outTo g n (i + 1)) := by
  apply List.ext_getElem
  · simp
  · intro k h1 h2
    rw [List.getElem_set]
    simp only [List.getElem_map, List.getElem_range]
    by_cases e : i = k
    · subst e; simp [outTo]
    · rw [if_neg e]
      unfold outTo
      by_cases h : k < i
      · rw [if_pos h, if_pos (by omega)]
      · rw [if_neg h, if_neg (by omega)]

set_option maxHeartbeats 1600000 in
theorem empty_any (n : Nat) (w : World) (hn : n ≤ 1000) :
    Calls Tryd.prog 39 #[.int .i64 n] w fun e w' => e = .returned (.slice (some ⟨w.heap.size, 0, none⟩) n n) ∧ TabAt w' w.heap.size n (fun _ _ => false) ∧ Below w.heap.size w w' ∧ w'.heap.size = w.heap.size + 1 + n := by
  have hmk := mk_tab n (by omega)
  have HO := Lib.hid (made_outer w n)
  have HB := Lib.hid (below_alloc (Below.refl w.heap.size w) (.cells (madeCells #[.slice none 0 0] n) 23))
  have HZ := Lib.hid (show (w.alloc (.cells (madeCells #[.slice none 0 0] n) 23)).heap.size = w.heap.size + 1 from by simp)
  go_enter Tryd.func39, Tryd.ntmps39
  go_wp2_with fail
  obtain ⟨w1, hw1⟩ : ∃ w1, w1 = w.alloc (.cells (madeCells #[.slice none 0 0] n) 23) := ⟨_, rfl⟩
  rw [← hw1] at HO HB HZ ⊢
  clear hw1 hmk
  go_loopw [4] (fun i wr => ∃ k : Nat, k ≤ n ∧ i = .int .i64 k ∧ Blk wr 23 w.heap.size ((List.range n).map (outTo w.heap.size n k)) ∧ (∀ i, i < k → Blk wr 4 (w.heap.size + 1 + i) ((List.range n).map fun _ => .bool false)) ∧ Below w.heap.size w wr ∧ wr.heap.size = w.heap.size + 1 + k) (fun i _ => n - (intOf i).toNat)
  case atStart => exact ⟨0, by omega, rfl, HO.out, fun i hi => by omega, HB.out, HZ.out⟩
  case round =>
    clear HO HB HZ
    obtain ⟨k, hk, rfl, hO, hI, hB, hz⟩ := hrel
    obtain ⟨wo, rfl⟩ : ∃ wo : World, wo = wr := ⟨_, rfl⟩
    by_cases hlt : k < n
    · have hmb := mk_bools n (by omega) wo
      have hbl := made_bools wo n
      have hki : (0 : Int) ≤ k := by omega
      have hk2 : (k : Int) < n := by omega
      have hO1 := hO.alloc (.cells (madeCells #[.bool false] n) 4)
      have hf := hO1.free k
      have hc : (wo.alloc (.cells (madeCells #[.bool false] n) 4)).cell? ⟨w.heap.size, k, none⟩ = some (.slice none 0 0) := by
        rw [hO1.cell k]; simp [hlt, outTo]
      have HO2 := Lib.hid (show Blk ((wo.alloc (.cells (madeCells #[.bool false] n) 4)).setCell ⟨w.heap.size, k, none⟩ (.slice (some ⟨wo.heap.size, 0, none⟩) n n)) 23 w.heap.size ((List.range n).map (outTo w.heap.size n (k + 1))) from by
        rw [← outTo_set]
        have := hO1.set k (outerV w.heap.size n k)
        rw [outerV, ← hz] at this
        rw [outerV, ← hz]; exact this)
      have HI2 := Lib.hid (show ∀ i, i < k + 1 → Blk ((wo.alloc (.cells (madeCells #[.bool false] n) 4)).setCell ⟨w.heap.size, k, none⟩ (.slice (some ⟨wo.heap.size, 0, none⟩) n n)) 4 (w.heap.size + 1 + i) ((List.range n).map fun _ => .bool false) from fun i hi => by
        refine Blk.other ?_ (by simp; omega) _
        by_cases e : i = k
        · subst e; rw [← bools_false, ← hz]; exact hbl
        · exact (hI i (by omega)).alloc _)
      have HB2 := Lib.hid (show Below w.heap.size w ((wo.alloc (.cells (madeCells #[.bool false] n) 4)).setCell ⟨w.heap.size, k, none⟩ (.slice (some ⟨wo.heap.size, 0, none⟩) n n)) from (below_alloc hB _).setCell (by simp) _)
      have HZ2 := Lib.hid (show ((wo.alloc (.cells (madeCells #[.bool false] n) 4)).setCell ⟨w.heap.size, k, none⟩ (.slice (some ⟨wo.heap.size, 0, none⟩) n n)).heap.size = w.heap.size + 1 + (k + 1) from by simp; omega)
      clear hO hI hB hbl hO1 hz
      go_wp2_with fail
      go_roundw
      case rel => exact ⟨k + 1, by omega, by go_num, HO2.out, HI2.out, HB2.out, HZ2.out⟩
      case measure => simp [intOf]; omega
    · obtain rfl : k = n := by omega
      have HF := Lib.hid (show TabAt wo w.heap.size k (fun _ _ => false) from ⟨by
        have : (List.range k).map (outTo w.heap.size k k) = (List.range k).map (outerV w.heap.size k) := by
          apply List.map_congr_left; intro x hx; unfold outTo; rw [if_pos (List.mem_range.1 hx)]
        rw [← this]; exact hO, hI⟩)
      have HB := Lib.hid hB
      have HZ := Lib.hid hz
      clear hO hI hB hz
      go_wp2_with fail
      go_ret
      exact ⟨rfl, HF.out, HB.out, HZ.out⟩

/-- Which pairs are in a list. -/
def inL (l : List (Int × Int)) (a b : Nat) : Bool := l.any fun p => p.1.toNat == a && p.2.toNat == b
theorem inL_snoc (l : List (Int × Int)) (p : Int × Int) : inL (l ++ [p]) = updT (inL l) p.1.toNat p.2.toNat true := by
  funext a b
  simp only [inL, List.any_append, List.any_cons, List.any_nil, Bool.or_false, updT]
  by_cases h : a = p.1.toNat ∧ b = p.2.toNat
  · rw [if_pos h, h.1, h.2]; simp
  · rw [if_neg h]
    have : (p.1.toNat == a && p.2.toNat == b) = false := by simp; intro h1 h2; exact h ⟨h1.symm, h2.symm⟩
    rw [this, Bool.or_false]
def TOfPost (n : Nat) (l : List (Int × Int)) (w : World) (e : Ending) (w' : World) : Prop :=
  Below w.heap.size w w' ∧ ((l.all (okP n) = true ∧ e = .returned (.tuple #[.slice (some ⟨w.heap.size, 0, none⟩) n n, .int .i64 0]) ∧ TabAt w' w.heap.size n (inL l) ∧ w.heap.size + 1 + n ≤ w'.heap.size) ∨ (l.all (okP n) = false ∧ e = .returned (.tuple #[.slice none 0 0, .int .i64 1])))
set_option maxHeartbeats 1600000 in
theorem tof_any (n : Nat) (l : List (Int × Int)) (p : Option Addr) (c : Nat) (w : World) (hn : n ≤ 128) (hl : l.length ≤ 1000000) (hp : Rds w 2 p l.length (pairCells l)) (hc : l.length ≤ c) :
    Calls Tryd.prog 27 #[.int .i64 n, .slice p l.length c] w (TOfPost n l w) := by
  have HP0 := Lib.hid hp
  clear hp
  have HN := Lib.hid (empty_any n w (by omega))
  have hn2 : (n : Int) ≤ 128 := by omega
  go_enter Tryd.func27, Tryd.ntmps27
  go_wp2_with fail
  refine (HN.out).mono ?_
  rintro e w1 ⟨rfl, hr1, hb1, hz1⟩
  have HR := Lib.hid hr1
  have HB := Lib.hid hb1
  have HZ := Lib.hid hz1
  clear hr1 hb1 HN hz1
  go_wp2_with fail
  go_loopw [7] (fun i wr => ∃ k : Nat, k ≤ l.length ∧ i = .int .i64 k ∧ TabAt wr w.heap.size n (inL (l.take k)) ∧ (l.take k).all (okP n) = true ∧ Below w.heap.size w wr ∧ w.heap.size + 1 + n ≤ wr.heap.size) (fun i _ => l.length - (intOf i).toNat)
  case atStart => exact ⟨0, by omega, rfl, by rw [List.take_zero]; exact HR.out, rfl, HB.out, by have := HZ.out; omega⟩
  case round =>
    clear HR HB HZ
    obtain ⟨k, hk, rfl, hR, hA, hB, hz⟩ := hrel
    obtain ⟨wo, rfl⟩ : ∃ wo : World, wo = wr := ⟨_, rfl⟩
    by_cases hlt : k < l.length
    · obtain ⟨g, off, rfl, p0, p1⟩ := pair_at (HP0.out.below hB) hlt
      have HA := Lib.hid (all_take hlt hA)
      have HNO := Lib.hid (fun h : okP n l[k] = false => all_not hlt h)
      have HTS := Lib.hid (take_snoc' l k hlt)
      have HSN := Lib.hid (inL_snoc (l.take k) l[k])
      have HQ := Lib.hid (show okP n l[k] = decide (0 ≤ l[k].1 ∧ l[k].1 < n ∧ 0 ≤ l[k].2 ∧ l[k].2 < n) from rfl)
      have hk0 : (0 : Int) ≤ k := by omega
      have hki : (k : Int) < l.length := by omega
      have HR := Lib.hid hR
      have HB := Lib.hid hB
      clear hR hA hB
      generalize l[k].1 = a at *
      generalize l[k].2 = b at *
      by_cases hok : 0 ≤ a ∧ a < n ∧ 0 ≤ b ∧ b < n
      · have HOK := Lib.hid (HA.out.trans (HQ.out.trans (decide_eq_true hok)))
        obtain ⟨h0, h1, h2, h3⟩ := hok
        obtain ⟨a, rfl⟩ := Int.eq_ofNat_of_zero_le h0
        obtain ⟨b, rfl⟩ := Int.eq_ofNat_of_zero_le h2
        have ha : a < n := by omega
        have hb : b < n := by omega
        have ho := HR.out.outer ha
        have hm := HR.out.mark ha hb
        have hf := HR.out.free ha b
        have HSET := Lib.hid (HR.out.set (b := b) ha true)
        have HB3 := Lib.hid (HB.out.setCell (p := ⟨w.heap.size + 1 + a, b, none⟩) (by simp; omega) (.bool true))
        clear HQ HNO HA
        go_wp2_with fail
        go_quiet (fail)
        go_wp2_with fail
        go_roundw
        case rel => exact ⟨k + 1, by omega, by go_num, by rw [HTS.out, HSN.out]; exact HSET.out, HOK.out, below_drewN HB3.out _, by simp; omega⟩
        case measure => simp [intOf]; omega
      · have HNA := Lib.hid (HNO.out (HQ.out.trans (decide_eq_false hok)))
        clear HQ HNO HA HR
        by_cases h1 : a < 0
        · go_wp2_with fail
          go_quiet (fail)
          go_wp2_with fail
          go_ret2
          exact ⟨below_drewN HB.out _, .inr ⟨HNA.out, rfl⟩⟩
        · by_cases h2 : b < 0
          · go_wp2_with fail
            go_quiet (fail)
            go_wp2_with fail
            go_ret2
            exact ⟨below_drewN HB.out _, .inr ⟨HNA.out, rfl⟩⟩
          · by_cases h3 : (n : Int) ≤ a
            · go_wp2_with fail
              go_quiet (fail)
              go_wp2_with fail
              go_ret2
              exact ⟨below_drewN HB.out _, .inr ⟨HNA.out, rfl⟩⟩
            · have h4 : (n : Int) ≤ b := by omega
              clear hok
              go_wp2_with fail
              go_quiet (fail)
              go_wp2_with fail
              go_ret2
              exact ⟨below_drewN HB.out _, .inr ⟨HNA.out, rfl⟩⟩
    · obtain rfl : k = l.length := by omega
      rw [List.take_length] at hR hA
      have HR := Lib.hid hR
      have HB := Lib.hid hB
      have HA := Lib.hid hA
      clear hR hA hB
      go_wp2_with fail
      go_ret2
      exact ⟨HB.out, .inl ⟨HA.out, rfl, HR.out, hz⟩⟩
end Go.Proofs.YtmiajpoclgdhbaaDoor
