/- Contracts of text, Hex, Dec, Int of the package granuleref02. -/
import Derived.Test.YtlhkjjfdmglabaaRows
import Derived.Test.YtlhkjjfdmglabaaTextWalk
namespace Go.Proofs.Ytlhkjjfdmglabaa
open Go.RowKit

def TextSaid (b n : Nat) : Prop := n < 18446744073709551616 → ∀ w : World, Calls Try.prog 40 #[.int .u64 (n : Int), .int .u64 (b : Int)] w fun e w' => e = .returned (.string (ba (txt b n))) ∧ ∃ m, w' = w.drewN m

theorem text_step (b : Nat) (hb : 2 ≤ b) (hb16 : b ≤ 16) (n : Nat) (ih : ∀ k, k < n → TextSaid b k) : TextSaid b n := by
  intro hn w
  have e2 : (n : Int).tmod (b : Int) = ((n % b : Nat) : Int) := rfl
  have e4 : (n : Int) % (b : Int) = ((n % b : Nat) : Int) := rfl
  have hr : n % b < 16 := Nat.lt_of_lt_of_le (Nat.mod_lt _ (by omega)) hb16
  have hb0 : ((b : Int) == 0) = false := beq_eq_false_iff_ne.2 (by omega)
  by_cases h : n < b
  · have H := Lib.hid (show txt b n = [dg (n % b)] by rw [txt_small b n h, Nat.mod_eq_of_lt h])
    clear ih
    generalize n % b = r at *
    have e3 : IntKind.u64.wrap ((r : Int) + 1) = (r : Int) + 1 := wrap_u64_id _ (by omega)
    have hsl := slice_digit r hr
    go_enter Try.func40, Try.ntmps40
    go_wp2_with fail
    go_quiet (fail)
    go_wp2
    go_ret
    exact ⟨ret_val (congrArg Value.string (congrArg ba H.out.symm)), _, rfl⟩
  · have hlt : n / b < n := Nat.div_lt_self (by omega) (by omega)
    have IH := Lib.hid (ih (n / b) hlt)
    have H := Lib.hid (txt_step b n hb (by omega))
    have e1 : IntKind.u64.wrap ((n : Int).tdiv (b : Int)) = ((n / b : Nat) : Int) := by
      have e9 : (n : Int).tdiv (b : Int) = ((n / b : Nat) : Int) := rfl
      rw [e9]; exact wrap_u64_id _ ⟨Int.natCast_nonneg _, by have := Nat.div_le_self n b; generalize n / b = q at *; omega⟩
    have e5 : (n : Int) / (b : Int) = ((n / b : Nat) : Int) := rfl
    have hq : n / b < 18446744073709551616 := by omega
    clear ih hlt
    generalize n % b = r at *
    generalize n / b = q at *
    have e3 : IntKind.u64.wrap ((r : Int) + 1) = (r : Int) + 1 := wrap_u64_id _ (by omega)
    have hsl := slice_digit r hr
    have hcat := cat_ba (P := Try.prog) (txt b q) [dg r] (by have := txt_len64 b q hb hq; simp; omega)
    go_enter Try.func40, Try.ntmps40
    go_wp2_with fail
    go_quiet (fail)
    go_wp2_with (go_at_call 40; refine (IH.out hq _).mono ?_; rintro e w' ⟨rfl, m, rfl⟩)
    go_ret
    exact ⟨ret_val (congrArg Value.string (congrArg ba H.out.symm)), _, rfl⟩

theorem text_all (b : Nat) (hb : 2 ≤ b) (hb16 : b ≤ 16) (n : Nat) : TextSaid b n := Nat.strongRecOn n (text_step b hb hb16)

theorem text_any (b x : Int) (w : World) (hb : b = 10 ∨ b = 16) (hx : 0 ≤ x ∧ x < 18446744073709551616) :
    Calls Try.prog 40 #[.int .u64 x, .int .u64 b] w fun e w' => e = .returned (.string (ba (txt b.toNat x.toNat))) ∧ ∃ m, w' = w.drewN m := by
  obtain ⟨n, rfl⟩ := Int.eq_ofNat_of_zero_le hx.1
  rcases hb with rfl | rfl
  · exact text_all 10 (by decide) (by decide) n (by omega) w
  · exact text_all 16 (by decide) (by decide) n (by omega) w

theorem compl_neg (n : Int) (hn : -9223372036854775808 ≤ n ∧ n < 0) : IntKind.u64.wrap (bits BinOp.xor IntKind.u64 IntKind.u64.max (IntKind.u64.wrap n) + 1) = -n := by
  obtain ⟨m, hm⟩ := Int.eq_ofNat_of_zero_le (show 0 ≤ n + 18446744073709551616 by omega)
  have e0 : IntKind.u64.wrap n = (m : Int) := by rw [IntKind.wrap_u64]; omega
  have e : IntKind.u64.max = ((18446744073709551615 : Nat) : Int) := by decide
  rw [e0, e, bits_xor_u64_nat _ _ (by decide) (by omega)]
  have hx : (18446744073709551615 : Nat) ^^^ m = 18446744073709551615 - m := by
    have := BitVec.toNat_not (x := BitVec.ofNat 64 m)
    rw [BitVec.not_def, BitVec.toNat_xor, BitVec.toNat_ofNat] at this
    simpa [Nat.mod_eq_of_lt (show m < 2 ^ 64 by omega)] using this
  rw [hx, IntKind.wrap_u64]
  omega

theorem rint_any (n : Int) (w : World) (hn : -9223372036854775808 ≤ n ∧ n ≤ 9223372036854775807) :
    Calls Try.prog 23 #[.int .i64 n] w fun e w' => e = .returned (.string (ba (intL n))) ∧ ∃ m, w' = w.drewN m := by
  by_cases h : n < 0
  · have H := Lib.hid (show intL n = [45] ++ txt 10 (-n).toNat by unfold intL; rw [if_pos h])
    have hs : IntKind.u64.signed = false := rfl
    have e1 := compl_neg n ⟨hn.1, h⟩
    have b1 := txt_len64 10 (-n).toNat (by decide) (by omega)
    have hcat' : ∀ wx : World, (Op.stringOp .add { data := #[45] } (ba (txt 10 (-n).toNat))).run Try.prog wx = .ok (.string (ba ([45] ++ txt 10 (-n).toNat))) wx := cat_ba (P := Try.prog) [45] (txt 10 (-n).toNat) (by simp; omega)
    clear b1
    go_enter Try.func23, Try.ntmps23
    go_wp2_with (go_at_call 40; refine (text_any 10 _ _ (.inl rfl) (by omega)).mono ?_; rintro e w' ⟨rfl, m, rfl⟩; rw [show (10 : Int).toNat = 10 from rfl])
    go_ret
    exact ⟨ret_val (congrArg Value.string (congrArg ba H.out.symm)), _, rfl⟩
  · have H := Lib.hid (show intL n = txt 10 n.toNat by unfold intL; rw [if_neg h])
    go_enter Try.func23, Try.ntmps23
    go_wp2_with (go_at_call 40; refine (text_any 10 _ _ (.inl rfl) (by omega)).mono ?_; rintro e w' ⟨rfl, m, rfl⟩; rw [show (10 : Int).toNat = 10 from rfl])
    go_ret
    exact ⟨ret_val (congrArg Value.string (congrArg ba H.out.symm)), _, rfl⟩

end Go.Proofs.Ytlhkjjfdmglabaa
