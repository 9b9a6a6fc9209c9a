/- Bits of words. -/
import Derived.Test.YtmiajpoclgdhbaaDoorRows
import Derived.Test.YtmiajpoclgdhbaaDoorBase
import Derived.Test.YtmiajpoclgdhbaaDoorBlk
import Derived.Laws.Bits64b
import Derived.Lib.TrailingZeros
import Derived.Shelf.Spec.TrailingZeros
namespace Go.Proofs.YtmiajpoclgdhbaaDoor
open Go.RowKit
set_option linter.unusedVariables false

theorem testBit_and1 (x k : Nat) (hx : x < 18446744073709551616) : (bits BinOp.and IntKind.u64 ((x : Int) / 2 ^ k) 1 == 1) = x.testBit k := by
  have e : ((x : Int) / 2 ^ k) = ((x / 2 ^ k : Nat) : Int) := by simp
  have hlt : x / 2 ^ k < 18446744073709551616 := Nat.lt_of_le_of_lt (Nat.div_le_self _ _) hx
  rw [e, show (1 : Int) = ((1 : Nat) : Int) from rfl, bits_and_u64_nat _ _ hlt (by decide), Nat.testBit_eq_decide_div_mod_eq, Nat.and_one_is_mod]
  by_cases h : x / 2 ^ k % 2 = 1
  · rw [h]; simp
  · rw [decide_eq_false h]; simp only [beq_eq_false_iff_ne]; omega
theorem wrap_nat (m : Nat) (h : m < 18446744073709551616) : IntKind.u64.wrap (m : Int) = (m : Int) := by rw [IntKind.wrap_u64]; omega
theorem or_bit (x k : Nat) (hx : x < 18446744073709551616) (hk : k < 64) : bits BinOp.or IntKind.u64 (x : Int) (IntKind.u64.wrap (2 ^ k)) = ((x ||| 2 ^ k : Nat) : Int) := by
  have h2 : 2 ^ k < 18446744073709551616 := by
    have : (2 : Nat) ^ k < 2 ^ 64 := Nat.pow_lt_pow_right (by decide) hk
    simpa using this
  rw [show ((2 : Int) ^ k) = ((2 ^ k : Nat) : Int) by simp, wrap_nat _ h2, bits_or_u64_nat _ _ hx h2]
theorem or_words (x y : Nat) (hx : x < 18446744073709551616) (hy : y < 18446744073709551616) : bits BinOp.or IntKind.u64 (x : Int) (y : Int) = ((x ||| y : Nat) : Int) := bits_or_u64_nat _ _ hx hy
theorem or_lt (x y : Nat) (hx : x < 18446744073709551616) (hy : y < 18446744073709551616) : x ||| y < 18446744073709551616 := Nat.or_lt_two_pow (n := 64) hx hy
theorem pow_lt (k : Nat) (hk : k < 64) : 2 ^ k < 18446744073709551616 := by
  have : (2 : Nat) ^ k < 2 ^ 64 := Nat.pow_lt_pow_right (by decide) hk
  simpa using this

/-- The places of a word's bits, rising. -/
def bitsL (x : Nat) : List Nat := (List.range 64).filter x.testBit
theorem filter_none {p : Nat → Bool} : ∀ {n : Nat}, (∀ j, j < n → p j = false) → (List.range n).filter p = [] := by
  intro n h
  rw [List.filter_eq_nil_iff]
  intro a ha
  rw [h a (List.mem_range.1 ha)]; simp
theorem filter_first {p q : Nat → Bool} {t : Nat} (hp : p t = true) (hlt : ∀ j, j < t → p j = false) (hq : ∀ j, q j = (p j && decide (j ≠ t))) : ∀ n, t < n → (List.range n).filter p = t :: (List.range n).filter q := by
  intro n
  induction n with
  | zero => intro h; omega
  | succ n ih =>
    intro h
    rw [List.range_succ, List.filter_append, List.filter_append]
    by_cases e : t = n
    · subst e
      have hq0 : (List.range t).filter q = [] := filter_none fun j hj => by rw [hq, hlt j hj]; rfl
      have hqt : q t = false := by rw [hq]; simp
      rw [filter_none hlt, hq0]
      simp [hp, hqt]
    · rw [ih (by omega)]
      have : q n = p n := by rw [hq, decide_eq_true (by omega)]; simp
      simp [List.filter_cons, this]
theorem ctz_facts (x : Nat) (h0 : x ≠ 0) (hx : x < 18446744073709551616) : Lib.ctz 64 x < 64 ∧ x.testBit (Lib.ctz 64 x) = true ∧ (∀ j, j < Lib.ctz 64 x → x.testBit j = false) ∧ ∀ j, (x &&& (x - 1)).testBit j = (x.testBit j && decide (j ≠ Lib.ctz 64 x)) := by
  obtain ⟨m, hm, hk⟩ := Lib.ctzFrom_spec 64 x (by omega) hx
  have e : Lib.ctz 64 x = Lib.ctzFrom 64 x := by simp [Lib.ctz, h0]
  rw [e]
  generalize Lib.ctzFrom 64 x = t at *
  have hxt : ∀ j, x.testBit j = (decide (t ≤ j) && (2 * m + 1).testBit (j - t)) := fun j => by rw [hm, Nat.mul_comm, Nat.testBit_mul_two_pow]
  have hx1 : x - 1 = 2 ^ t * (2 * m) + (2 ^ t - 1) := by
    have := Nat.two_pow_pos t
    rw [hm, Nat.mul_add]; omega
  have hp1 : 2 ^ t - 1 < 2 ^ t := by have := Nat.two_pow_pos t; omega
  have hxs : ∀ j, (x - 1).testBit j = if j < t then true else (2 * m).testBit (j - t) := fun j => by
    rw [hx1, Nat.testBit_two_pow_mul_add _ hp1]
    split
    · rename_i h; rw [Nat.testBit_two_pow_sub_one]; simp [h]
    · rfl
  refine ⟨hk, ?_, fun j hj => ?_, fun j => ?_⟩
  · rw [hxt]; simp
  · rw [hxt]; simp; omega
  · rw [Nat.testBit_and, hxs]
    by_cases h1 : j < t
    · rw [if_pos h1, hxt, decide_eq_false (by omega)]; simp
    · rw [if_neg h1]
      by_cases h2 : j = t
      · subst h2; simp
      · rw [hxt, decide_eq_true (by omega), decide_eq_true h2]
        obtain ⟨d, rfl⟩ : ∃ d, j = t + (d + 1) := ⟨j - t - 1, by omega⟩
        rw [show t + (d + 1) - t = d + 1 by omega, Nat.testBit_succ, Nat.testBit_succ, show (2 * m + 1) / 2 = m by omega, show 2 * m / 2 = m by omega]
        simp
theorem bitsL_zero : bitsL 0 = [] := filter_none fun j _ => by simp
theorem bitsL_step (x : Nat) (h0 : x ≠ 0) (hx : x < 18446744073709551616) : bitsL x = Lib.ctz 64 x :: bitsL (x &&& (x - 1)) := by
  obtain ⟨h1, h2, h3, h4⟩ := ctz_facts x h0 hx
  exact filter_first h2 h3 h4 64 h1
theorem and_pred_lt (x : Nat) (hx : x < 18446744073709551616) : x &&& (x - 1) < 18446744073709551616 := Nat.lt_of_le_of_lt Nat.and_le_left hx
theorem and_pred_dec (x : Nat) (h0 : x ≠ 0) (hx : x < 18446744073709551616) : x &&& (x - 1) < x := by
  have h := Nat.and_le_right (n := x) (m := x - 1)
  omega
theorem bitsL_len (x : Nat) : (bitsL x).length ≤ 64 := by
  have := List.length_filter_le x.testBit (List.range 64)
  simpa [bitsL] using this
theorem and_pred (x : Nat) (h0 : x ≠ 0) (hx : x < 18446744073709551616) : bits BinOp.and IntKind.u64 (x : Int) (IntKind.u64.wrap ((x : Int) - 1)) = ((x &&& (x - 1) : Nat) : Int) := by
  rw [show ((x : Int) - 1) = ((x - 1 : Nat) : Int) by omega, show IntKind.u64.wrap ((x - 1 : Nat) : Int) = ((x - 1 : Nat) : Int) by rw [IntKind.wrap_u64]; omega, bits_and_u64_nat _ _ hx (by omega)]
end Go.Proofs.YtmiajpoclgdhbaaDoor
