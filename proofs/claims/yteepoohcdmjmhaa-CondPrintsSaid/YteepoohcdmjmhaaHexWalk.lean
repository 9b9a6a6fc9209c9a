/- The contract of Hex of the package field. -/
import Derived.Test.YteepoohcdmjmhaaRows
import Derived.Test.YteepoohcdmjmhaaBytes
import Derived.Test.YteepoohcdmjmhaaFieldPlain
namespace Go.Proofs.Yteepoohcdmjmhaa
open Go.RowKit

theorem el_u8 : El Try.prog 77 5 (.int .u8 0) 1 1 := ⟨Try.underlying77, by kernel_rfl⟩

theorem and15 (y : Nat) (hy : y < 18446744073709551616) : bits .and .u64 (y : Int) 15 = ((y % 16 : Nat) : Int) := by
  rw [show (15 : Int) = ((15 : Nat) : Int) from rfl, bits_and_u64_nat _ _ hy (by decide), show (15 : Nat) = 2 ^ 4 - 1 from rfl, and_mask]

theorem hex_row (bs : List UInt8) (w : World) : appRow (w.alloc (.cells #[.int .u8 48, .int .u8 120] 5 (2, 3))) w.heap.size 5 (.slice (some ⟨w.heap.size, 0, none⟩) 2 2) (2 + (bs.drop bs.length).length) (bytesV ([48, 120] ++ (bs.drop bs.length).reverse)) := by
  rw [List.drop_length]
  refine .inr ⟨w.heap.size, 0, rfl, by decide, rfl, fun j hj => ?_⟩
  have e1 : (w.alloc (.cells #[.int .u8 48, .int .u8 120] 5 (2, 3))).heap[w.heap.size]? = some (.cells #[.int .u8 48, .int .u8 120] 5 (2, 3)) := by
    show (w.heap.push _)[w.heap.size]? = _; simp
  have hj2 : j < 2 := hj
  rw [Nat.zero_add, cell_of_row _ _ j _ _ _ e1]
  match j, hj2 with
  | 0, _ => rfl
  | 1, _ => rfl

set_option maxHeartbeats 400000 in
theorem hex_any (x : Int) (w : World) (hx : 0 ≤ x ∧ x < 18446744073709551616) :
    Calls Try.prog 28 #[.int .u64 x] w fun e w' => e = .returned (.string (ba ([48, 120] ++ txt 16 x.toNat))) ∧ Below w.heap.size w w' := by
  obtain ⟨n, rfl⟩ := Int.eq_ofNat_of_zero_le hx.1
  rw [Int.toNat_natCast]
  have hn : n < 18446744073709551616 := by omega
  clear hx
  go_enter Try.func28, Try.ntmps28
  go_wp2_with fail
  go_loopw [3, 0] (fun v i wr => ∃ (y : Nat) (acc : List UInt8), y ≤ n ∧ i = .int .u64 y ∧ HexInv n y acc ∧ wr.ownsRow w.heap.size 5 1 v acc.length (bytesV acc) ∧ Below w.heap.size w wr) (fun _ i _ => (intOf i).toNat)
  case atStart => exact ⟨n, [], Nat.le_refl _, rfl, HexInv.start n, World.ownsRow_nil _ _ _ _, Below.refl _ _⟩
  case round =>
    obtain ⟨y, acc, hy, rfl, hi, hown, hnx⟩ := hrel
    have hb := hnx.size
    have hl := hi.len hn
    have e1 := and15 y (by omega)
    have hr : y % 16 < 16 := Nat.mod_lt _ (by decide)
    have HI := Lib.hid hi
    clear hi
    have HB := Lib.hid (show ∀ (w1 : World) (v' : Value), w1.ownsRow w.heap.size 5 1 v' (acc.length + 1) (bytesV acc ++ [.int .u8 ((ByteArray.mk #[48, 49, 50, 51, 52, 53, 54, 55, 56, 57, 97, 98, 99, 100, 101, 102])[y % 16]'hr).toNat]) →
        w1.ownsRow w.heap.size 5 1 v' (acc ++ [dg (y % 16)]).length (bytesV (acc ++ [dg (y % 16)])) from fun w1 v' h => by
      rw [bytesV_snoc, List.length_append]; rw [dg_at] at h; exact h)
    by_cases hlast : y < 16
    · have HL := Lib.hid (HI.out.last hlast)
      have t1 : ((y : Int) / 16 == 0) = true := beq_iff_eq.2 (by omega)
      go_wp2_with (at_builtin; refine app1 rfl _ _ 77 rfl w.heap.size 5 (.int .u8 0) 1 el_u8 rfl _ _ _ rfl hown _ rfl rfl ?c1 ?c2 ?c3 ?_)
      case c1 => unfold maxLen; omega
      case c2 => omega
      case c3 => exact hb
      intro v1 w1 hown' hg hb1
      have hown2 := HB.out w1 v1 hown'
      have hnx1 := hnx.trans hb1
      clear hown' hown hg hb1 hnx hb
      generalize hacc : acc ++ [dg (y % 16)] = bs at *
      have hl2 : bs.length ≤ 64 := by rw [← hacc]; simp; omega
      have hpos : 0 < bs.length := by rw [← hacc]; simp
      clear hacc HB HI hl
      have hcs := fun (w : World) (C : Array Value) (n c : Nat) => Lib.run_convert_bytes_const (P := Try.prog) w 77 5 C n c Try.underlying77 Try.underlying5
      obtain ⟨g, cap, rfl, hg1, hg2, hg3, hg4, hc, hf⟩ := own_open hown2 hpos
      unfold maxLen at hg4
      have HC := Lib.hid hc
      clear hown2 hf hc
      go_wp2_with fail
      go_loopw [5, 4] (fun i v wr => ∃ k : Nat, k ≤ bs.length ∧ i = .int .i64 ((k : Int) - 1) ∧ appRow wr w1.heap.size 5 v (2 + (bs.drop k).length) (bytesV ([48, 120] ++ (bs.drop k).reverse)) ∧ Below w1.heap.size w1 wr) (fun i _ _ => (intOf i + 1).toNat)
      case atStart => exact ⟨bs.length, Nat.le_refl _, by go_num, hex_row bs w1, below_alloc (Below.refl _ _) _⟩
      case round =>
        obtain ⟨k, hk, rfl, hown, hnb⟩ := hrel
        have hbz := hnb.size
        cases k with
        | zero =>
          have hcv := conv_read (P := Try.prog) (dst := 9) Try.underlying77 Try.underlying5 Try.underlying9 (readRow_app hown)
          clear hown
          go_wp2
          go_ret
          exact ⟨ret_val (congrArg Value.string (by rw [HL.out])), hnx1.trans (hnb.mono hnx1.size)⟩
        | succ m =>
          clear hcs
          have hcell : wr.cell? ⟨g, m, none⟩ = some (.int .u8 (bs[m]'(by omega)).toNat) := by
            rw [hnb.cell (by exact hg2), HC.out m (by omega)]
            simp [bytesV, List.getElem?_eq_getElem (show m < bs.length by omega)]
          have HD := Lib.hid (drop_rev bs m (by omega))
          have hlm : (bs.drop (m + 1)).length ≤ 64 := by rw [List.length_drop]; omega
          have HLM := Lib.hid (show (bs.drop m).length = (bs.drop (m + 1)).length + 1 by rw [List.length_drop, List.length_drop]; omega)
          rw [show ((m + 1 : Nat) : Int) - 1 = m from by omega]
          generalize hbm : bs[m]'(by omega) = c at *
          clear hbm
          generalize hds : (bs.drop (m + 1)) = ds at *
          clear hds
          go_wp2_with (at_builtin; refine app1w rfl _ _ 77 rfl w1.heap.size 5 (.int .u8 0) 1 el_u8 rfl _ _ _ rfl hown _ rfl rfl ?c1 ?c2 ?c3 ?_)
          case c1 => unfold maxLen; omega
          case c2 => omega
          case c3 => exact hbz
          intro v2 w2 hown3 hb1
          clear hown
          go_wp2
          go_roundw
          case rel =>
            refine ⟨m, by omega, rfl, ?_, hnb.trans hb1⟩
            rw [HD.out, HLM.out, ← List.append_assoc, bytesV_snoc]
            exact .inl hown3
          case measure => simp [intOf]
    · have HL := Lib.hid (HI.out.next (by omega))
      have t1 : ((y : Int) / 16 == 0) = false := beq_eq_false_iff_ne.2 (by omega)
      go_wp2_with (at_builtin; refine app1 rfl _ _ 77 rfl w.heap.size 5 (.int .u8 0) 1 el_u8 rfl _ _ _ rfl hown _ rfl rfl ?c1 ?c2 ?c3 ?_)
      case c1 => unfold maxLen; omega
      case c2 => omega
      case c3 => exact hb
      intro v1 w1 hown' hg hb1
      have hown2 := HB.out w1 v1 hown'
      clear hown' hown hg
      go_wp2
      go_roundw
      case rel => exact ⟨y / 16, acc ++ [dg (y % 16)], by omega, by go_num, HL.out, hown2, hnx.trans hb1⟩
      case measure => simp [intOf]; omega

end Go.Proofs.Yteepoohcdmjmhaa
