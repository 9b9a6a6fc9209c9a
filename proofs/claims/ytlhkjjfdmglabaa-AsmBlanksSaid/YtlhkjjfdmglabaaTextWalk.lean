/- Contracts of Dec, Int, Hex of the package field: words as texts. -/
import Derived.Test.YtlhkjjfdmglabaaRows
import Derived.Test.YtlhkjjfdmglabaaBase
import Derived.Test.YtlhkjjfdmglabaaTextPlain
import Derived.Test.YtlhkjjfdmglabaaFieldPlain
namespace Go.Proofs.Ytlhkjjfdmglabaa
open Go.RowKit

theorem slice_digit (r : Nat) (h : r < 16) (wx : World) :
    (Instr.slice 9 (.string { data := #[48, 49, 50, 51, 52, 53, 54, 55, 56, 57, 97, 98, 99, 100, 101, 102] }) (some (.int .u64 (r : Int))) (some (.int .u64 ((r : Int) + 1))) none).run Try.prog wx = .ok (.string (ba [dg r])) wx := by
  rw [run_slice_string wx 9 _ _ _ _ _ Try.underlying9 (by omega) (by omega) (by show (r : Int) + 1 ≤ 16; omega)]
  have e : ((r : Int) + 1).toNat = r + 1 := by omega
  rw [Int.toNat_natCast, e, dg_slice r h]

def DecSaid (n : Nat) : Prop := n < 18446744073709551616 → ∀ w : World, Calls Try.prog 36 #[.int .u64 (n : Int)] w fun e w' => e = .returned (.string (ba (txt 10 n))) ∧ ∃ m, w' = w.drewN m

theorem dec_step (n : Nat) (ih : ∀ k, k < n → DecSaid k) : DecSaid n := by
  intro hn w
  by_cases h : n < 10
  · have H := Lib.hid (txt_small 10 n h)
    have HS := Lib.hid (dg_slice n (by omega))
    have IH := Lib.hid ih
    clear ih
    go_enter Try.func36, Try.ntmps36
    go_wp2
    go_ret
    exact ⟨ret_val (congrArg Value.string (HS.out.trans (congrArg ba H.out.symm))), 0, rfl⟩
  · have IH := Lib.hid (ih (n / 10) (by omega))
    have H := Lib.hid (txt_step 10 n (by decide) (by omega))
    have hr : n % 10 < 10 := Nat.mod_lt _ (by decide)
    have hq : n / 10 < 18446744073709551616 := by omega
    have HS := Lib.hid (dg_slice (n % 10) (by omega))
    have e1 : IntKind.u64.wrap ((n : Int) / 10) = ((n / 10 : Nat) : Int) := by rw [wrap_u64_id _ (by omega)]; omega
    have e2 : (n : Int).tmod 10 = ((n % 10 : Nat) : Int) := by rw [Int.tmod_eq_emod_of_nonneg (by omega)]; omega
    have e4 : (n : Int) % 10 = ((n % 10 : Nat) : Int) := by omega
    clear ih
    generalize n / 10 = q at *
    generalize n % 10 = r at *
    have e3 : IntKind.u64.wrap ((r : Int) + 1) = (r : Int) + 1 := wrap_u64_id _ (by omega)
    have hsl := slice_digit r (by omega)
    have hcat := cat_ba (P := Try.prog) (txt 10 q) [dg r] (by have := txt_len64 10 q (by decide) hq; simp; omega)
    go_enter Try.func36, Try.ntmps36
    go_wp2_with fail
    go_quiet ((go_at_call 36; exact quiet_of (IH.out hq _)))
    go_wp2
    go_ret
    exact ⟨ret_val (congrArg Value.string (congrArg ba H.out.symm)), _, rfl⟩

theorem dec_all (n : Nat) : DecSaid n := Nat.strongRecOn n dec_step
theorem dec_any (x : Int) (w : World) (hx : 0 ≤ x ∧ x < 18446744073709551616) :
    Calls Try.prog 36 #[.int .u64 x] w fun e w' => e = .returned (.string (ba (txt 10 x.toNat))) ∧ ∃ m, w' = w.drewN m := by
  obtain ⟨n, rfl⟩ := Int.eq_ofNat_of_zero_le hx.1
  rw [Int.toNat_natCast]
  exact dec_all n (by omega) w

def intL (n : Int) : List UInt8 := if n < 0 then [45] ++ txt 10 (-n).toNat else txt 10 n.toNat

theorem int_any (n : Int) (w : World) (hn : -9223372036854775808 ≤ n ∧ n ≤ 9223372036854775807) :
    Calls Try.prog 19 #[.int .i64 n] w fun e w' => e = .returned (.string (ba (intL n))) ∧ ∃ m, w' = w.drewN m := by
  by_cases h : n < 0
  · have H := Lib.hid (show intL n = [45] ++ txt 10 (-n).toNat by unfold intL; rw [if_pos h])
    go_enter Try.func19, Try.ntmps19
    have e1 : IntKind.u64.wrap (wrap64 (-n)) = -n := by rw [IntKind.wrap_u64]; unfold wrap64; omega
    have b1 := txt_len64 10 (-n).toNat (by decide) (by omega)
    have hcat := cat_ba (P := Try.prog) [45] (txt 10 (-n).toNat) (by simp; omega)
    have hcat' : ∀ wx : World, (Op.stringOp .add { data := #[45] } (ba (txt 10 (-n).toNat))).run Try.prog wx = .ok (.string (ba ([45] ++ txt 10 (-n).toNat))) wx := hcat
    clear hcat b1
    go_wp2_with (go_at_call 36; refine (dec_any _ _ (by omega)).mono ?_; rintro e w' ⟨rfl, m, rfl⟩)
    go_ret
    exact ⟨ret_val (congrArg Value.string (congrArg ba H.out.symm)), _, rfl⟩
  · have H := Lib.hid (show intL n = txt 10 n.toNat by unfold intL; rw [if_neg h])
    go_enter Try.func19, Try.ntmps19
    go_wp2_with (go_at_call 36; refine (dec_any _ _ (by omega)).mono ?_; rintro e w' ⟨rfl, m, rfl⟩)
    go_ret
    exact ⟨ret_val (congrArg Value.string (congrArg ba H.out.symm)), _, rfl⟩

end Go.Proofs.Ytlhkjjfdmglabaa
