/- Contracts of the small functions of granuleref05. -/
import Derived.Test.YtikflhigenijdaaRegsWalk
namespace Go.Proofs.Ytikflhigenijdaa
open Go.RowKit

def inL (op : Int) (zs : List Int) : Bool := zs.any (fun z => z == op)
theorem inL_take (op : Int) (zs : List Int) (k : Nat) (hk : k < zs.length) (h : inL op (zs.take k) = false) (hz : (zs.getD k 0 == op) = false) : inL op (zs.take (k + 1)) = false := by
  rw [List.take_succ_eq_append_getElem hk, inL, List.any_append]
  unfold inL at h
  rw [h]
  have : zs.getD k 0 = zs[k] := by simp [List.getD, List.getElem?_eq_getElem hk]
  rw [this] at hz
  simpa using hz
theorem inL_hit (op : Int) (zs : List Int) (k : Nat) (hk : k < zs.length) (hz : (zs.getD k 0 == op) = true) : inL op zs = true := by
  have : zs.getD k 0 = zs[k] := by simp [List.getD, List.getElem?_eq_getElem hk]
  rw [this] at hz
  unfold inL
  rw [List.any_eq_true]
  exact ⟨zs[k], List.getElem_mem _, hz⟩

theorem is_any (op : Int) (zs : List Int) {b off len cap : Nat} {w : World} (hlen : len = zs.length) (hsmall : len ≤ 1000)
    (hc : ∀ j, j < zs.length → w.cell? ⟨b, off + j, none⟩ = some (.int .i64 (zs.getD j 0))) :
    Calls Try.prog 39 #[.int .i64 op, .slice (some ⟨b, off, none⟩) len cap] w fun e w' => e = .returned (.bool (inL op zs)) ∧ w = w' := by
  subst hlen
  have HC := Lib.hid hc
  clear hc
  go_enter Try.func39, Try.ntmps39
  go_wp2_with fail
  go_loop [5] (fun i => ∃ k : Nat, k ≤ zs.length ∧ i = .int .i64 k ∧ inL op (zs.take k) = false) (fun i => zs.length - (intOf i).toNat)
  case atStart => exact ⟨0, Nat.zero_le _, rfl, rfl⟩
  case round =>
    obtain ⟨k, hk, rfl, hno⟩ := hrel
    have HN := Lib.hid hno
    clear hno
    by_cases hlt : k < zs.length
    · have hcell := HC.out k hlt
      cases hz : (zs.getD k 0 == op)
      · have HX := Lib.hid (inL_take op zs k hlt HN.out hz)
        generalize zs.getD k 0 = z at *
        go_wp2
        go_round
        case rel => exact ⟨k + 1, by omega, by go_num, HX.out⟩
        case measure => simp [intOf]; omega
      · have HX := Lib.hid (inL_hit op zs k hlt hz)
        generalize zs.getD k 0 = z at *
        go_wp2
        go_ret
        exact ⟨ret_bool HX.out.symm, rfl⟩
    · obtain rfl : k = zs.length := by omega
      have HX := Lib.hid (show inL op zs = false by have := HN.out; rwa [List.take_length] at this)
      go_wp2
      go_ret
      exact ⟨ret_bool HX.out.symm, rfl⟩

theorem rbranch_any (op d n m imm kind : Int) (w : World) :
    Calls Try.prog 16 #[instrV op d n m imm kind] w fun e w' => e = .returned (.bool (branchB op)) ∧ Below w.heap.size w w' := by
  have H := Lib.hid (show inL op [15, 16, 17] = branchB op by
    simp only [inL, branchB, List.any_cons, List.any_nil, Bool.or_false, ← Bool.or_assoc]
    rw [show ((15 : Int) == op) = (op == 15) from BEq.comm, show ((16 : Int) == op) = (op == 16) from BEq.comm, show ((17 : Int) == op) = (op == 17) from BEq.comm])
  go_enter Try.func16, Try.ntmps16
  go_wp2_with (go_at_call 39; refine (is_any _ [15, 16, 17] rfl (by decide) (lit_cells .i64 [15, 16, 17] _ _ _ (by simp))).mono ?_; rintro e w' ⟨rfl, rfl⟩)
  go_ret
  exact ⟨ret_bool H.out, below_alloc (below_alloc (Below.refl _ _) _) _⟩

end Go.Proofs.Ytikflhigenijdaa
