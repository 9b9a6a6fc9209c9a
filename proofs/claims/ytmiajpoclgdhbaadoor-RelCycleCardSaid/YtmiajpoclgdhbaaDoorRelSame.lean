/- Same; Identity. -/
import Derived.Test.YtmiajpoclgdhbaaDoorRelPairs
namespace Go.Proofs.YtmiajpoclgdhbaaDoor
open Go.RowKit
set_option linter.unusedVariables false

theorem eqRow (x y x2 y2 : Int) (b : Bool) (h : (x == x2 && y == y2) = b) (w : World) : (Op.equalIn 10000 67 (.agg #[.int .u64 x, .int .u64 y]) (.agg #[.int .u64 x2, .int .u64 y2])).run Tryd.prog w = .ok b w := by
  have hi : ∃ i, Tryd.prog.info? 65 = some i := by
    cases e : Tryd.prog.info? 65 with
    | some i => exact ⟨i, rfl⟩
    | none => exact absurd e (by have : (Tryd.prog.info? 65).isSome = true := by kernel_rfl
                                 intro e; rw [e] at this; cases this)
  obtain ⟨i, hi⟩ := hi
  rw [eq2 Tryd.underlying67 hi Tryd.underlying65 (by kernel_rfl) 9998 x y x2 y2 w, h]
def sameW (n1 n2 : Nat) (ws1 ws2 : List Nat) : Bool := decide (n1 = n2) && decide (ws1 = ws2)
theorem same_of {n : Nat} {ws1 ws2 : List Nat} (h1 : ws1.length = 2 * n) (h2 : ws2.length = 2 * n) (h : ∀ j, j < 2 * n → ws1.getD j 0 = ws2.getD j 0) : sameW n n ws1 ws2 = true := by
  have : ws1 = ws2 := by
    apply List.ext_getElem (by omega)
    intro j a b
    have := h j (by omega)
    simpa [List.getD_eq_getElem?_getD, a, b] using this
  unfold sameW; rw [decide_eq_true rfl, decide_eq_true this]; rfl
theorem same_not {n1 n2 : Nat} {ws1 ws2 : List Nat} {j : Nat} (h : ws1.getD j 0 ≠ ws2.getD j 0) : sameW n1 n2 ws1 ws2 = false := by
  have : ws1 ≠ ws2 := fun e => h (by rw [e])
  unfold sameW; rw [decide_eq_false this, Bool.and_false]
set_option maxHeartbeats 3200000 in
theorem relsame_any (h g n h2 g2 n2 : Nat) (ws ws2 : List Nat) (w : World) (r : RelAt w h g n ws) (r2 : RelAt w h2 g2 n2 ws2) (hn : n ≤ 1000) (hn2 : n2 ≤ 1000) :
    Calls Tryd.prog 25 #[.pointer (some ⟨h, 0, none⟩), .pointer (some ⟨h2, 0, none⟩)] w fun e w' => e = .returned (.bool (sameW n n2 ws ws2)) ∧ Below w.heap.size w w' := by
  have HR := Lib.hid r
  have HR2 := Lib.hid r2
  obtain ⟨_, _, ⟨c, hc, hB⟩, _⟩ := r
  obtain ⟨_, _, ⟨c2, hc2, hB2⟩, _⟩ := r2
  have a0 : w.cell? ⟨h, 0, none⟩ = some (.slice (some ⟨g, 0, none⟩) n c) := hB.cell 0
  have b0 : w.cell? ⟨h2, 0, none⟩ = some (.slice (some ⟨g2, 0, none⟩) n2 c2) := hB2.cell 0
  have HB2 := Lib.hid hB2
  clear hB hB2
  by_cases hnn : n = n2
  · subst hnn
    go_enter Tryd.func25, Tryd.ntmps25
    go_wp2_with fail
    go_quiet (fail)
    go_wp2_with fail
    go_loopw [23] (fun i wr => ∃ k : Nat, k ≤ n ∧ i = .int .i64 k ∧ (∀ j, j < 2 * k → ws.getD j 0 = ws2.getD j 0) ∧ Below w.heap.size w wr) (fun i _ => n - (intOf i).toNat)
    case atStart => exact ⟨0, by omega, rfl, fun j hj => by omega, below_drewN (Below.refl _ _) _⟩
    case round =>
      obtain ⟨k, hk, rfl, hE, hB⟩ := hrel
      obtain ⟨wo, rfl⟩ : ∃ wo : World, wo = wr := ⟨_, rfl⟩
      by_cases hlt : k < n
      · have hr1 := HR.out.below hB
        have hr2 := HR2.out.below hB
        have d0 := hr1.2.2.2.cell (j := k * 2) (by have := hr1.len; omega)
        have d1 := hr1.2.2.2.cell (j := k * 2 + 1) (by have := hr1.len; omega)
        have e0 := fun o => cell_alloc (hr2.2.2.2.cell (j := k * 2) (by have := hr2.len; omega)) o
        have e1 := fun o => cell_alloc (hr2.2.2.2.cell (j := k * 2 + 1) (by have := hr2.len; omega)) o
        have b1 := fun o => cell_alloc (show wo.cell? ⟨h2, 0, none⟩ = some (.slice (some ⟨g2, 0, none⟩) n c2) from (HB2.out.below hB).cell 0) o
        have HNO := Lib.hid (fun (b : ¬ (ws.getD (k * 2) 0 = ws2.getD (k * 2) 0 ∧ ws.getD (k * 2 + 1) 0 = ws2.getD (k * 2 + 1) 0)) => show sameW n n ws ws2 = false from by
          by_cases q : ws.getD (k * 2) 0 = ws2.getD (k * 2) 0
          · exact same_not (j := k * 2 + 1) (fun e => b ⟨q, e⟩)
          · exact same_not q)
        have HYES := Lib.hid (fun (a : ws.getD (k * 2) 0 = ws2.getD (k * 2) 0 ∧ ws.getD (k * 2 + 1) 0 = ws2.getD (k * 2 + 1) 0) => show ∀ j, j < 2 * (k + 1) → ws.getD j 0 = ws2.getD j 0 from fun j hj => by
          by_cases q0 : j = k * 2
          · subst q0; exact a.1
          · by_cases q1 : j = k * 2 + 1
            · subst q1; exact a.2
            · exact hE j (by omega))
        have HB := Lib.hid hB
        have hki : (0 : Int) ≤ k := by omega
        have hk2 : (k : Int) < n := by omega
        clear hr1 hr2 hB hE
        generalize ws.getD (k * 2) 0 = y0 at *
        generalize ws.getD (k * 2 + 1) 0 = y1 at *
        generalize ws2.getD (k * 2) 0 = z0 at *
        generalize ws2.getD (k * 2 + 1) 0 = z1 at *
        by_cases hyz : y0 = z0 ∧ y1 = z1
        · have HY := Lib.hid (HYES.out hyz)
          have heq := fun w => eqRow (y0 : Int) (y1 : Int) (z0 : Int) (z1 : Int) true (by simp; omega) w
          clear HYES HNO hyz
          go_wp2_with fail
          go_quiet (fail)
          go_wp2_with fail
          go_roundw
          case rel => exact ⟨k + 1, by omega, by go_num, HY.out, below_drewN (below_alloc HB.out _) _⟩
          case measure => simp [intOf]; omega
        · have HN := Lib.hid (HNO.out hyz)
          have heq := fun w => eqRow (y0 : Int) (y1 : Int) (z0 : Int) (z1 : Int) false (by simp; omega) w
          clear HYES HNO hyz
          go_wp2_with fail
          go_quiet (fail)
          go_wp2_with fail
          go_ret
          exact ⟨by rw [HN.out]; rfl, below_drewN (below_alloc HB.out _) _⟩
      · obtain rfl : k = n := by omega
        have HS := Lib.hid (same_of HR.out.len HR2.out.len hE)
        have HB := Lib.hid hB
        clear hE hB
        go_wp2_with fail
        go_ret
        exact ⟨by rw [HS.out]; rfl, HB.out⟩
  · have HN := Lib.hid (show sameW n n2 ws ws2 = false from by unfold sameW; rw [decide_eq_false hnn]; rfl)
    have hnb : ((n : Int) == (n2 : Int)) = false := by simp; omega
    have hnc : ((n : Int) != (n2 : Int)) = true := by simp; omega
    have hnd : ¬ n = n2 := hnn
    go_enter Tryd.func25, Tryd.ntmps25
    go_wp2_with fail
    go_quiet (fail)
    go_wp2_with fail
    go_ret
    exact ⟨by rw [HN.out]; rfl, below_drewN (Below.refl _ _) _⟩

def idW (n k : Nat) : List Nat := (List.range k).foldl (fun ws i => addP ws i i) (zeros n)
theorem idW_len (n k : Nat) : (idW n k).length = 2 * n := by
  induction k with
  | zero => simp [idW, zeros]
  | succ k ih => rw [idW, fold_succ]; show (addP (idW n k) k k).length = _; rw [addP_len, ih]
set_option maxHeartbeats 1600000 in
theorem relid_any (n : Nat) (w : World) (hn : n ≤ 128) :
    Calls Tryd.prog 29 #[.int .i64 n] w fun e w' => e = .returned (.tuple #[.pointer (some ⟨w.heap.size + 1, 0, none⟩), .int .i64 0]) ∧ RelAt w' (w.heap.size + 1) w.heap.size n (idW n n) ∧ Below w.heap.size w w' := by
  have HN := Lib.hid (relnew_ok n w hn)
  go_enter Tryd.func29, Tryd.ntmps29
  go_wp2_with fail
  refine (HN.out).mono ?_
  rintro e w1 ⟨rfl, hr, hb⟩
  have HR := Lib.hid hr
  have HB := Lib.hid hb
  clear hr hb HN
  go_wp2_with fail
  go_loopw [16] (fun i wr => ∃ k : Nat, k ≤ n ∧ i = .int .i64 k ∧ RelAt wr (w.heap.size + 1) w.heap.size n (idW n k) ∧ Below w.heap.size w wr) (fun i _ => n - (intOf i).toNat)
  case atStart => exact ⟨0, by omega, rfl, HR.out, HB.out⟩
  case round =>
    clear HR HB
    obtain ⟨k, hk, rfl, hR, hB⟩ := hrel
    obtain ⟨wo, rfl⟩ : ∃ wo : World, wo = wr := ⟨_, rfl⟩
    by_cases hlt : k < n
    · have hki : (0 : Int) ≤ k := by omega
      have hk2 : (k : Int) < n := by omega
      have HID := Lib.hid (show idW n (k + 1) = addP (idW n k) k k from by rw [idW, fold_succ]; rfl)
      have hl := idW_len n k
      have HS := rowset_any w.heap.size (k * 2) k (idW n k) wo hR.2.2.2 (by omega) (by omega)
      rw [show k * 2 + k / 64 = 2 * k + k / 64 by omega] at HS
      have HS := Lib.hid HS
      have HR := Lib.hid hR
      have HB := Lib.hid hB
      obtain ⟨_, _, ⟨c, hc, hBl⟩, _⟩ := hR
      have hc0 : wo.cell? ⟨w.heap.size + 1, 0, none⟩ = some (.slice (some ⟨w.heap.size, 0, none⟩) n c) := hBl.cell 0
      clear hBl hB
      go_wp2_with fail
      refine (HS.out).mono ?_
      rintro e w2 ⟨rfl, hW2, hG⟩
      have HR2 := Lib.hid (HR.out.put (addP_len (idW n k) k k) hW2 hG)
      have HB2 := Lib.hid (HB.out.grown hG HB.out.size (fun j hj => by injection hj with hj; omega))
      clear hW2 hG HR HB HS
      go_wp2_with fail
      go_roundw
      case rel => exact ⟨k + 1, by omega, by go_num, by rw [HID.out]; exact HR2.out, HB2.out⟩
      case measure => simp [intOf]; omega
    · obtain rfl : k = n := by omega
      have HR := Lib.hid hR
      have HB := Lib.hid hB
      clear hR hB
      go_wp2_with fail
      go_ret2
      exact ⟨rfl, HR.out, HB.out⟩
theorem relid_bad (n : Int) (w : World) (hn : n < 0 ∨ 128 < n) :
    Calls Tryd.prog 29 #[.int .i64 n] w fun e w' => e = .returned (.tuple #[.pointer none, .int .i64 10]) ∧ w = w' := by
  have HN := Lib.hid (relnew_bad n w hn)
  go_enter Tryd.func29, Tryd.ntmps29
  go_wp2_with fail
  refine (HN.out).mono ?_
  rintro e w1 ⟨rfl, rfl⟩
  go_wp2_with fail
  go_ret2
  exact ⟨rfl, rfl⟩
end Go.Proofs.YtmiajpoclgdhbaaDoor
