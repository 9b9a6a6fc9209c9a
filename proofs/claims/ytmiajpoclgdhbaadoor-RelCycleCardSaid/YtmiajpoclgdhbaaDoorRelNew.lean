/- A relation in memory; New, Add, Has. -/
import Derived.Test.YtmiajpoclgdhbaaDoorRelRow
import Derived.Laws.OwnMore
namespace Go.Proofs.YtmiajpoclgdhbaaDoor
open Go.RowKit
set_option linter.unusedVariables false

theorem made_get (z : Array Value) (m j : Nat) (hz : 0 < z.size) (hj : j < m) : (madeCells z m)[j]? = some (z.getD (j % z.size) undef) := by
  have hlt : j % z.size < z.size := Nat.mod_lt _ hz
  simp [madeCells, hj, hlt]
theorem mk_run {P : Program} {t e : TypeId} {z : Value} {size bytes : Nat} (hel : El P t e z size bytes) (n : Nat) (hb : bytes * n ≤ 281474976710656) (h63 : n ≤ 9223372036854775807) (w : World) :
    (Instr.makeSlice t (.int .i64 (n : Int)) (.int .i64 (n : Int))).run P w = .ok (.slice (some ⟨w.heap.size, 0, none⟩) n n) (w.alloc (.cells (madeCells z.cells (n * size)) e)) := by
  obtain ⟨ht, hinfo⟩ := hel
  obtain ⟨i, hi, hz0, hz1, hz2⟩ := info_parts hinfo
  have hr := run_make (P := P) w t e i z ht hi hz0 .i64 .i64 n n (by omega) (Int.le_refl _) (by rw [hz2]; omega) (by omega)
  rw [hz1] at hr
  simpa using hr
theorem elrow : El Tryd.prog 62 67 (.agg #[.int .u64 0, .int .u64 0]) 2 16 := ⟨Tryd.underlying62, by kernel_rfl⟩

def zeros (n : Nat) : List Nat := List.replicate (2 * n) 0
theorem zeros_get (n j : Nat) : (zeros n).getD j 0 = 0 := by
  rw [List.getD_eq_getElem?_getD, zeros, List.getElem?_replicate]; split <;> rfl
theorem wds_made (w : World) (n : Nat) : Wds (w.alloc (.cells (madeCells (Value.agg #[.int .u64 0, .int .u64 0]).cells (n * 2)) 67)) w.heap.size (zeros n) := by
  refine ⟨_, heap_alloc_new w _, by simp [zeros, madeCells]; omega, fun j hj => ?_, fun j => by rw [zeros_get]; omega⟩
  have hj' : j < n * 2 := by simp [zeros] at hj; omega
  rw [made_get _ _ _ (by decide) hj', zeros_get]
  have : j % (Value.agg #[.int .u64 0, .int .u64 0]).cells.size = 0 ∨ j % (Value.agg #[.int .u64 0, .int .u64 0]).cells.size = 1 := by
    have e : (Value.agg #[.int .u64 0, .int .u64 0]).cells.size = 2 := rfl
    rw [e]; omega
  rcases this with e | e <;> rw [e] <;> rfl

/-- The relation whose record is block h, whose rows are block g: over n things, with these words. -/
def RelAt (w : World) (h g n : Nat) (ws : List Nat) : Prop :=
  g ≠ h ∧ ws.length = 2 * n ∧ (∃ c, n ≤ c ∧ Blk w 64 h [.slice (some ⟨g, 0, none⟩) n c]) ∧ Wds w g ws
section
variable {w w' : World} {h g n : Nat} {ws : List Nat}
theorem RelAt.kept {row : Option Nat} (r : RelAt w h g n ws) (hg : w.grownBy w' row) (h1 : some h ≠ row) (h2 : some g ≠ row) : RelAt w' h g n ws := by
  obtain ⟨a, b, ⟨c, hc, hB⟩, d⟩ := r
  exact ⟨a, b, ⟨c, hc, hB.kept hg h1⟩, d.kept hg h2⟩
theorem RelAt.below (r : RelAt w h g n ws) (hb : Below w.heap.size w w') : RelAt w' h g n ws := r.kept (below_grown hb none) (by simp) (by simp)
theorem RelAt.dn (r : RelAt w h g n ws) (k : Nat) : RelAt (w.drewN k) h g n ws := r
theorem RelAt.hlt (r : RelAt w h g n ws) : h < w.heap.size := by obtain ⟨a, b, ⟨c, hc, hB⟩, d⟩ := r; exact hB.lt
theorem RelAt.glt (r : RelAt w h g n ws) : g < w.heap.size := r.2.2.2.lt
theorem RelAt.len (r : RelAt w h g n ws) : ws.length = 2 * n := r.2.1
theorem RelAt.put (r : RelAt w h g n ws) {ws' : List Nat} (hl : ws'.length = ws.length) (hw : Wds w' g ws') (hg : w.grownBy w' (some g)) : RelAt w' h g n ws' := by
  obtain ⟨a, b, ⟨c, hc, hB⟩, d⟩ := r
  exact ⟨a, hl.trans b, ⟨c, hc, hB.kept hg (by simpa using fun e => a e.symm)⟩, hw⟩
end

theorem relin_any (h g n : Nat) (ws : List Nat) (a : Int) (w : World) (r : RelAt w h g n ws) :
    Calls Tryd.prog 55 #[.pointer (some ⟨h, 0, none⟩), .int .i64 a] w fun e w' => e = .returned (.bool (decide (0 ≤ a) && decide (a < n))) ∧ w = w' := by
  obtain ⟨_, _, ⟨c, hc, hB⟩, _⟩ := r
  have hc0 := hB.cell 0
  clear hB
  obtain ⟨z, hz⟩ : ∃ z, z = (decide (0 ≤ a) && decide (a < (n : Int))) := ⟨_, rfl⟩
  rw [← hz]
  by_cases h0 : 0 ≤ a
  · by_cases h1 : a < n
    · have HE := Lib.hid (show z = true from by rw [hz]; simp; omega)
      clear hz
      go_enter Tryd.func55, Tryd.ntmps55
      go_wp2_with fail
      go_ret
      exact ⟨by rw [HE.out]; rfl, rfl⟩
    · have HE := Lib.hid (show z = false from by rw [hz]; simp; omega)
      clear hz
      go_enter Tryd.func55, Tryd.ntmps55
      go_wp2_with fail
      go_ret
      exact ⟨by rw [HE.out]; rfl, rfl⟩
  · have HE := Lib.hid (show z = false from by rw [hz]; simp; omega)
    clear hz
    go_enter Tryd.func55, Tryd.ntmps55
    go_wp2_with fail
    go_ret
    exact ⟨by rw [HE.out]; rfl, rfl⟩

/-- What the words say of a pair. -/
def hasB (ws : List Nat) (a b : Nat) : Bool := (ws.getD (2 * a + b / 64) 0).testBit (b % 64)
def hasZ (ws : List Nat) (n : Nat) (a b : Int) : Bool := decide (0 ≤ a) && decide (a < n) && (decide (0 ≤ b) && decide (b < n)) && hasB ws a.toNat b.toNat
set_option maxHeartbeats 800000 in
theorem relhas_any (h g n : Nat) (ws : List Nat) (a b : Int) (w : World) (r : RelAt w h g n ws) (hn : n ≤ 128) :
    Calls Tryd.prog 32 #[.pointer (some ⟨h, 0, none⟩), .int .i64 a, .int .i64 b] w fun e w' => e = .returned (.bool (hasZ ws n a b)) ∧ w = w' := by
  have HR := Lib.hid r
  have HL := r.len
  obtain ⟨_, _, ⟨c, hc, hB⟩, hW⟩ := r
  have hc0 := hB.cell 0
  clear hB
  have HA := Lib.hid (fun (a : Int) => relin_any h g n ws a w HR.out)
  have HZ := Lib.hid (show hasZ ws n a b = (decide (0 ≤ a) && decide (a < n) && (decide (0 ≤ b) && decide (b < n)) && hasB ws a.toNat b.toNat) from rfl)
  by_cases h0 : 0 ≤ a ∧ a < n
  · obtain ⟨h0, h1⟩ := h0
    by_cases h2 : 0 ≤ b ∧ b < n
    · obtain ⟨h2, h3⟩ := h2
      obtain ⟨a, rfl⟩ := Int.eq_ofNat_of_zero_le h0
      obtain ⟨b, rfl⟩ := Int.eq_ofNat_of_zero_le h2
      have h1' : a < n := by omega
      have h3' : b < n := by omega
      have HH := Lib.hid (rowhas_any g (a * 2) (ws.getD (2 * a + b / 64) 0) b w (by omega) (hW.wlt _) (by
        have := hW.cell (j := 2 * a + b / 64) (by omega)
        rw [show a * 2 + b / 64 = 2 * a + b / 64 by omega]; exact this))
      have e1 : (decide ((0 : Int) ≤ (a : Int)) && decide ((a : Int) < (n : Int))) = true := by simp; omega
      have e2 : (decide ((0 : Int) ≤ (b : Int)) && decide ((b : Int) < (n : Int))) = true := by simp; omega
      have hq : (ws.getD (2 * a + b / 64) 0).testBit (b % 64) = hasB ws a b := rfl
      rw [hq] at HH
      rw [e1, e2] at HZ
      have HA1 := HA.out a
      have HA2 := HA.out b
      rw [e1] at HA1
      rw [e2] at HA2
      have HA1 := Lib.hid HA1
      have HA2 := Lib.hid HA2
      clear hW e1 e2 hq HR HA
      go_enter Tryd.func32, Tryd.ntmps32
      go_wp2_with fail
      refine (HA1.out).mono ?_
      rintro e w' ⟨rfl, rfl⟩
      go_wp2_with fail
      refine (HA2.out).mono ?_
      rintro e w' ⟨rfl, rfl⟩
      go_wp2_with fail
      refine (HH.out).mono ?_
      rintro e w' ⟨rfl, rfl⟩
      go_wp2_with fail
      go_ret
      exact ⟨by rw [HZ.out]; simp, rfl⟩
    · have e1 : (decide ((0 : Int) ≤ a) && decide (a < (n : Int))) = true := by simp; omega
      have e2 : (decide ((0 : Int) ≤ b) && decide (b < (n : Int))) = false := by simp; omega
      rw [e1, e2] at HZ
      have HA1 := HA.out a
      have HA2 := HA.out b
      rw [e1] at HA1
      rw [e2] at HA2
      have HA1 := Lib.hid HA1
      have HA2 := Lib.hid HA2
      clear hW e1 e2 HR HA h0 h1 h2
      go_enter Tryd.func32, Tryd.ntmps32
      go_wp2_with fail
      refine (HA1.out).mono ?_
      rintro e w' ⟨rfl, rfl⟩
      go_wp2_with fail
      refine (HA2.out).mono ?_
      rintro e w' ⟨rfl, rfl⟩
      go_wp2_with fail
      go_ret
      exact ⟨by rw [HZ.out]; simp, rfl⟩
  · have e1 : (decide ((0 : Int) ≤ a) && decide (a < (n : Int))) = false := by simp; omega
    rw [e1] at HZ
    have HA1 := HA.out a
    rw [e1] at HA1
    have HA1 := Lib.hid HA1
    clear hW e1 HR HA h0
    go_enter Tryd.func32, Tryd.ntmps32
    go_wp2_with fail
    refine (HA1.out).mono ?_
    rintro e w' ⟨rfl, rfl⟩
    go_wp2_with fail
    go_ret
    exact ⟨by rw [HZ.out]; simp, rfl⟩

/-- A pair more. -/
def addP (ws : List Nat) (a b : Nat) : List Nat := setW ws (2 * a + b / 64) (b % 64)
theorem addP_len (ws : List Nat) (a b : Nat) : (addP ws a b).length = ws.length := by simp [addP, setW]
set_option maxHeartbeats 800000 in
theorem reladd_ok (h g n a b : Nat) (ws : List Nat) (w : World) (r : RelAt w h g n ws) (hn : n ≤ 128) (ha : a < n) (hb : b < n) :
    Calls Tryd.prog 35 #[.pointer (some ⟨h, 0, none⟩), .int .i64 a, .int .i64 b] w fun e w' => e = .returned (.int .i64 0) ∧ RelAt w' h g n (addP ws a b) ∧ w.grownBy w' (some g) := by
  have HR := Lib.hid r
  have HL := r.len
  obtain ⟨_, _, ⟨c, hc, hB⟩, hW⟩ := r
  have hc0 := hB.cell 0
  clear hB
  have HA := fun (a : Int) => relin_any h g n ws a w HR.out
  have e1 : (decide ((0 : Int) ≤ (a : Int)) && decide ((a : Int) < (n : Int))) = true := by simp; omega
  have e2 : (decide ((0 : Int) ≤ (b : Int)) && decide ((b : Int) < (n : Int))) = true := by simp; omega
  have HA1 := HA a
  have HA2 := HA b
  rw [e1] at HA1
  rw [e2] at HA2
  have HA1 := Lib.hid HA1
  have HA2 := Lib.hid HA2
  have HS := rowset_any g (a * 2) b ws w hW (by omega) (by omega)
  rw [show a * 2 + b / 64 = 2 * a + b / 64 by omega] at HS
  have HS := Lib.hid HS
  clear hW e1 e2 HA
  go_enter Tryd.func35, Tryd.ntmps35
  go_wp2_with fail
  refine (HA1.out).mono ?_
  rintro e w' ⟨rfl, rfl⟩
  go_wp2_with fail
  refine (HA2.out).mono ?_
  rintro e w' ⟨rfl, rfl⟩
  go_wp2_with fail
  refine (HS.out).mono ?_
  rintro e w2 ⟨rfl, hW2, hG⟩
  have HF := Lib.hid (HR.out.put (addP_len ws a b) hW2 hG)
  have HG := Lib.hid hG
  clear hW2 hG
  go_wp2_with fail
  go_ret
  exact ⟨rfl, HF.out, HG.out⟩
set_option maxHeartbeats 800000 in
theorem reladd_bad (h g n : Nat) (a b : Int) (ws : List Nat) (w : World) (r : RelAt w h g n ws) (hn : n ≤ 128) (hab : ¬ (0 ≤ a ∧ a < n ∧ 0 ≤ b ∧ b < n)) :
    Calls Tryd.prog 35 #[.pointer (some ⟨h, 0, none⟩), .int .i64 a, .int .i64 b] w fun e w' => e = .returned (.int .i64 1) ∧ w = w' := by
  have HR := Lib.hid r
  have HA := fun (a : Int) => relin_any h g n ws a w HR.out
  have HA1 := HA a
  have HA2 := HA b
  clear r HA
  by_cases h0 : 0 ≤ a ∧ a < n
  · have e1 : (decide ((0 : Int) ≤ a) && decide (a < (n : Int))) = true := by simp; omega
    have e2 : (decide ((0 : Int) ≤ b) && decide (b < (n : Int))) = false := by simp; omega
    rw [e1] at HA1
    rw [e2] at HA2
    have HA1 := Lib.hid HA1
    have HA2 := Lib.hid HA2
    clear e1 e2 h0 hab
    go_enter Tryd.func35, Tryd.ntmps35
    go_wp2_with fail
    refine (HA1.out).mono ?_
    rintro e w' ⟨rfl, rfl⟩
    go_wp2_with fail
    refine (HA2.out).mono ?_
    rintro e w' ⟨rfl, rfl⟩
    go_wp2_with fail
    go_ret
    exact ⟨rfl, rfl⟩
  · have e1 : (decide ((0 : Int) ≤ a) && decide (a < (n : Int))) = false := by simp; omega
    rw [e1] at HA1
    have HA1 := Lib.hid HA1
    clear e1 h0 hab HA2
    go_enter Tryd.func35, Tryd.ntmps35
    go_wp2_with fail
    refine (HA1.out).mono ?_
    rintro e w' ⟨rfl, rfl⟩
    go_wp2_with fail
    go_ret
    exact ⟨rfl, rfl⟩

theorem relnew_bad (n : Int) (w : World) (hn : n < 0 ∨ 128 < n) :
    Calls Tryd.prog 28 #[.int .i64 n] w fun e w' => e = .returned (.tuple #[.pointer none, .int .i64 10]) ∧ w = w' := by
  by_cases h : n < 0
  · go_enter Tryd.func28, Tryd.ntmps28
    go_wp2_with fail
    go_ret2
    exact ⟨rfl, rfl⟩
  · have h2 : 128 < n := by omega
    go_enter Tryd.func28, Tryd.ntmps28
    go_wp2_with fail
    go_ret2
    exact ⟨rfl, rfl⟩
theorem relnew_ok (n : Nat) (w : World) (hn : n ≤ 128) :
    Calls Tryd.prog 28 #[.int .i64 n] w fun e w' => e = .returned (.tuple #[.pointer (some ⟨w.heap.size + 1, 0, none⟩), .int .i64 0]) ∧ RelAt w' (w.heap.size + 1) w.heap.size n (zeros n) ∧ Below w.heap.size w w' := by
  have hmk := mk_run elrow n (by omega) (by omega)
  have h1 : (n : Int) ≤ 128 := by omega
  have HW := Lib.hid (wds_made w n)
  go_enter Tryd.func28, Tryd.ntmps28
  go_wp2_with fail
  go_ret2
  refine ⟨by simp, ⟨by omega, by simp [zeros], ⟨n, Nat.le_refl _, ?_⟩, HW.out.kept (World.grownBy_alloc _ _ none) (by simp)⟩, below_alloc (below_alloc (Below.refl _ _) _) _⟩
  simpa using Blk.new (w.alloc (.cells (madeCells #[.int .u64 0, .int .u64 0] (n * 2)) 67)) 64 [.slice (some ⟨w.heap.size, 0, none⟩) n n]
end Go.Proofs.YtmiajpoclgdhbaaDoor
