/- Contracts of the small functions of regs and of granuleref05. -/
import Derived.Test.YtikflhigenijdaaRows
import Derived.Test.YtikflhigenijdaaRegsPlain
namespace Go.Proofs.Ytikflhigenijdaa
open Go.RowKit

abbrev instrV (op d n m imm kind : Int) : Value := .agg #[.int .i64 op, .int .i64 d, .int .i64 n, .int .i64 m, .int .i64 imm, .int .i64 kind]

theorem fget_any (g : Nat) (n : Int) (w : World) {x : List Int} {same : Bool} {sys : List Int} (hf : FileAt w 30 g x same sys) :
    Calls Try.prog 10 #[.pointer (some ⟨g, 0, none⟩), .int .i64 n] w fun e w' => e = .returned (.int .u64 (getX x n)) ∧ ∃ m, w' = w.drewN m := by
  by_cases h : 0 ≤ n ∧ n < 31
  · obtain ⟨h0, h1⟩ := h
    obtain ⟨k, rfl⟩ := Int.eq_ofNat_of_zero_le h0
    have hc := hf.reg k (by omega)
    have H := Lib.hid (getX_in x k (by omega))
    generalize x.getD k 0 = v at *
    clear hf
    go_enter Try.func10, Try.ntmps10
    go_wp2
    go_ret
    exact ⟨ret_int (by rw [H.out]), 0, rfl⟩
  · have H := Lib.hid (getX_out x n h)
    clear hf
    by_cases h1 : n < 0
    · clear h
      go_enter Try.func10, Try.ntmps10
      go_wp2
      go_ret
      exact ⟨ret_int (by rw [H.out]), 0, rfl⟩
    · have h2 : 31 ≤ n := by omega
      clear h
      go_enter Try.func10, Try.ntmps10
      go_wp2
      go_ret
      exact ⟨ret_int (by rw [H.out]), 0, rfl⟩

theorem fset_in (g k : Nat) (v : Int) (w : World) {x : List Int} {same : Bool} {sys : List Int} (hf : FileAt w 30 g x same sys) (hk : k < 31) :
    Calls Try.prog 12 #[.pointer (some ⟨g, 0, none⟩), .int .i64 (k : Int), .int .u64 v] w fun e w' => e = .returned (.tuple #[]) ∧ w.setCell ⟨g, k, none⟩ (.int .u64 v) = w' := by
  have hc := hf.reg k hk
  have hz := hf.free k
  generalize x.getD k 0 = u at *
  clear hf
  go_enter Try.func12, Try.ntmps12
  go_wp2
  go_end0
  exact ⟨rfl, rfl⟩

theorem fset_out (g : Nat) (n v : Int) (w : World) (h : ¬ (0 ≤ n ∧ n < 31)) :
    Calls Try.prog 12 #[.pointer (some ⟨g, 0, none⟩), .int .i64 n, .int .u64 v] w fun e w' => e = .returned (.tuple #[]) ∧ w = w' := by
  by_cases h1 : n < 0
  · clear h
    go_enter Try.func12, Try.ntmps12
    go_wp2
    go_end0
    exact ⟨rfl, rfl⟩
  · have h2 : 31 ≤ n := by omega
    clear h
    go_enter Try.func12, Try.ntmps12
    go_wp2
    go_end0
    exact ⟨rfl, rfl⟩

/-- Any register is set; nothing but the file's block turns. -/
theorem fset_any (g : Nat) (n v : Int) (w : World) {x : List Int} {same : Bool} {sys : List Int} (hf : FileAt w 30 g x same sys) :
    Calls Try.prog 12 #[.pointer (some ⟨g, 0, none⟩), .int .i64 n, .int .u64 v] w fun e w' => e = .returned (.tuple #[]) ∧ FileAt w' 30 g (setX x n v) same sys ∧ w.grownBy w' (some g) := by
  by_cases h : 0 ≤ n ∧ n < 31
  · obtain ⟨k, rfl⟩ := Int.eq_ofNat_of_zero_le h.1
    refine (fset_in g k v w hf (by omega)).mono ?_
    rintro e w' ⟨rfl, rfl⟩
    refine ⟨rfl, ?_, ⟨rfl, rfl, rfl, by simp [World.setCell], fun j _ hj => heap_setCell_other w _ j _ (fun e => hj (by simp [e]))⟩⟩
    unfold setX
    rw [if_pos h, Int.toNat_natCast]
    exact hf.setReg k v (by omega)
  · refine (fset_out g n v w h).mono ?_
    rintro e w' ⟨rfl, rfl⟩
    refine ⟨rfl, ?_, World.grownBy.refl _ _⟩
    unfold setX
    rw [if_neg h]; exact hf

def branchB (op : Int) : Bool := op == 15 || op == 16 || op == 17
def loadB (op : Int) : Bool := op == 2 || op == 4
def storeB (op : Int) : Bool := op == 3 || op == 5

theorem load_any (op d n m imm kind : Int) (w : World) :
    Calls Try.prog 28 #[instrV op d n m imm kind] w fun e w' => e = .returned (.bool (loadB op)) ∧ Below w.heap.size w w' := by
  cases h1 : op == 2 <;> cases h2 : op == 4 <;> (
    have H := Lib.hid (show loadB op = ((op == 2) || (op == 4)) from rfl)
    go_enter Try.func28, Try.ntmps28
    go_wp2
    go_ret
    exact ⟨ret_bool (by rw [H.out, h1, h2]; rfl), below_alloc (Below.refl _ _) _⟩)
theorem store_any (op d n m imm kind : Int) (w : World) :
    Calls Try.prog 30 #[instrV op d n m imm kind] w fun e w' => e = .returned (.bool (storeB op)) ∧ Below w.heap.size w w' := by
  cases h1 : op == 3 <;> cases h2 : op == 5 <;> (
    have H := Lib.hid (show storeB op = ((op == 3) || (op == 5)) from rfl)
    go_enter Try.func30, Try.ntmps30
    go_wp2
    go_ret
    exact ⟨ret_bool (by rw [H.out, h1, h2]; rfl), below_alloc (Below.refl _ _) _⟩)
theorem branch_any (op d n m imm kind : Int) (w : World) :
    Calls Try.prog 32 #[instrV op d n m imm kind] w fun e w' => e = .returned (.bool (branchB op)) ∧ Below w.heap.size w w' := by
  cases h1 : op == 15 <;> cases h2 : op == 16 <;> cases h3 : op == 17 <;> (
    have H := Lib.hid (show branchB op = ((op == 15) || (op == 16) || (op == 17)) from rfl)
    go_enter Try.func32, Try.ntmps32
    go_wp2
    go_ret
    exact ⟨ret_bool (by rw [H.out, h1, h2, h3]; rfl), below_alloc (Below.refl _ _) _⟩)

end Go.Proofs.Ytikflhigenijdaa
