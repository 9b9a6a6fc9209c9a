/- Registers by their names. -/
import Derived.Test.YtcaifejfkpmeeaaGreatMgaa
import Derived.WalkKit
import Derived.Test.YtcaifejfkpmeeaaGreatRows
import Derived.Laws.Rows
namespace Go.Proofs.YtcaifejfkpmeeaaGreat
open Go.RowKit

def mayB (hi lo : Int) : Bool := decide (0 ≤ lo ∧ lo ≤ hi ∧ hi < 64)
def maskN (n : Int) : Nat := 2 ^ (min n.toNat 64) - 1
def getN (x hi lo : Int) : Nat := if mayB hi lo then x.toNat / 2 ^ lo.toNat % 2 ^ (hi - lo + 1).toNat else 0
def putN (x hi lo v : Int) : Nat :=
  if mayB hi lo then (x.toNat &&& ((2 ^ 64 - 1) ^^^ (2 ^ (hi - lo + 1).toNat - 1) * 2 ^ lo.toNat)) ||| (v.toNat % 2 ^ (hi - lo + 1).toNat * 2 ^ lo.toNat) else x.toNat
def downN (x n : Int) : Nat := x.toNat / 2 ^ n.toNat * 2 ^ n.toNat

theorem pow64 : (2 : Nat) ^ 64 = 18446744073709551616 := by decide

theorem maskN_lt (n : Int) : maskN n < 18446744073709551616 := by
  unfold maskN
  have h : (2 : Nat) ^ (min n.toNat 64) ≤ 2 ^ 64 := Nat.pow_le_pow_right (by decide) (by omega)
  have h0 : 0 < (2 : Nat) ^ (min n.toNat 64) := Nat.pow_pos (by decide)
  omega

theorem maskN_small (n : Int) (h : n < 64) : maskN n = 2 ^ n.toNat - 1 := by
  unfold maskN; rw [Nat.min_eq_left (by omega)]
theorem maskN_big (n : Int) (h : 64 ≤ n) : maskN n = 18446744073709551615 := by
  unfold maskN; rw [Nat.min_eq_right (by omega)]

/-- 1<<n - 1, as the walk spells it. -/
theorem mask_walk (n : Int) (h : n < 64) : IntKind.u64.wrap (IntKind.u64.wrap (2 ^ n.toNat) - 1) = (maskN n : Int) := by
  rw [maskN_small n h]
  have h1 : (2 : Nat) ^ n.toNat ≤ 2 ^ 63 := Nat.pow_le_pow_right (by decide) (by omega)
  have h0 : 0 < (2 : Nat) ^ n.toNat := Nat.pow_pos (by decide)
  have e : ((2 : Int) ^ n.toNat) = ((2 ^ n.toNat : Nat) : Int) := by simp
  rw [e, IntKind.wrap_u64, IntKind.wrap_u64]
  generalize (2 : Nat) ^ n.toNat = m at *
  have : (2:Nat)^63 = 9223372036854775808 := by decide
  omega

theorem and_mask (a k : Nat) : a &&& (2 ^ k - 1) = a % 2 ^ k := Nat.and_two_pow_sub_one_eq_mod a k

theorem getN_lt (x hi lo : Int) (hx : 0 ≤ x ∧ x < 18446744073709551616) : getN x hi lo < 18446744073709551616 := by
  unfold getN
  split
  · have h1 : x.toNat / 2 ^ lo.toNat % 2 ^ (hi - lo + 1).toNat ≤ x.toNat / 2 ^ lo.toNat := Nat.mod_le _ _
    have h2 : x.toNat / 2 ^ lo.toNat ≤ x.toNat := Nat.div_le_self _ _
    omega
  · omega

/-- w >> lo & mask(hi-lo+1), as the walk spells it. -/
theorem get_walk (x hi lo : Int) (hx : 0 ≤ x ∧ x < 18446744073709551616) (hm : mayB hi lo = true) :
    bits .and .u64 (x / 2 ^ lo.toNat) (maskN (hi - lo + 1) : Int) = (getN x hi lo : Int) := by
  obtain ⟨n, rfl⟩ := Int.eq_ofNat_of_zero_le hx.1
  have e : ((n : Int) / 2 ^ lo.toNat) = ((n / 2 ^ lo.toNat : Nat) : Int) := by simp
  rw [e, bits_and_u64_nat _ _ (Nat.lt_of_le_of_lt (Nat.div_le_self _ _) (by omega)) (maskN_lt _)]
  unfold getN
  rw [if_pos hm]
  have hm' := hm
  simp only [mayB, decide_eq_true_eq] at hm'
  by_cases hb : hi - lo + 1 < 64
  · rw [maskN_small _ hb, and_mask, Int.toNat_natCast]
  · rw [maskN_big _ (by omega)]
    have h64 : (hi - lo + 1).toNat = 64 := by omega
    rw [h64, Int.toNat_natCast, show (18446744073709551615 : Nat) = 2 ^ 64 - 1 from by decide, and_mask]

theorem wrap_u64_id (x : Int) (hx : 0 ≤ x ∧ x < 18446744073709551616) : IntKind.u64.wrap x = x := by rw [IntKind.wrap_u64]; omega

theorem bits_andNot_u64_nat (a b : Nat) (ha : a < 18446744073709551616) (hb : b < 18446744073709551616) :
    bits .andNot .u64 (a : Int) (b : Int) = ((a &&& ((2 ^ 64 - 1) ^^^ b) : Nat) : Int) := by
  have h1 : (BitVec.ofInt 64 (a : Int)).toNat = a := by
    rw [BitVec.ofInt_natCast, BitVec.toNat_ofNat]; exact Nat.mod_eq_of_lt (by omega)
  have h2 : (BitVec.ofInt 64 (b : Int)).toNat = b := by
    rw [BitVec.ofInt_natCast, BitVec.toNat_ofNat]; exact Nat.mod_eq_of_lt (by omega)
  show IntKind.u64.wrap ((BitVec.ofInt 64 (a : Int) &&& ~~~ BitVec.ofInt 64 (b : Int)).toNat : Int) = _
  rw [BitVec.toNat_and, BitVec.toNat_not, h1, h2]
  have hx : (2 ^ 64 - 1) ^^^ b = 2 ^ 64 - 1 - b := by
    have := BitVec.toNat_not (x := BitVec.ofNat 64 b)
    rw [BitVec.not_def, BitVec.toNat_xor, BitVec.toNat_ofNat] at this
    simpa [Nat.mod_eq_of_lt (show b < 2 ^ 64 by omega)] using this
  rw [hx]
  have h3 : a &&& (2 ^ 64 - 1 - b) < 2 ^ 64 := Nat.and_lt_two_pow _ (by omega)
  rw [IntKind.wrap_u64]
  omega

theorem putN_lt (x hi lo v : Int) (hx : 0 ≤ x ∧ x < 18446744073709551616) : putN x hi lo v < 18446744073709551616 := by
  unfold putN
  split
  · rename_i hm
    simp only [mayB, decide_eq_true_eq] at hm
    rw [← pow64]
    refine Nat.or_lt_two_pow (Nat.lt_of_le_of_lt Nat.and_le_left (by omega)) ?_
    have h1 : v.toNat % 2 ^ (hi - lo + 1).toNat < 2 ^ (hi - lo + 1).toNat := Nat.mod_lt _ (Nat.pow_pos (by decide))
    have h2 : v.toNat % 2 ^ (hi - lo + 1).toNat * 2 ^ lo.toNat < 2 ^ (hi - lo + 1).toNat * 2 ^ lo.toNat := (Nat.mul_lt_mul_right (Nat.pow_pos (by decide))).2 h1
    rw [← Nat.pow_add] at h2
    exact Nat.lt_of_lt_of_le h2 (Nat.pow_le_pow_right (by decide) (by omega))
  · omega

theorem downN_lt (x n : Int) (hx : 0 ≤ x ∧ x < 18446744073709551616) : downN x n < 18446744073709551616 := by
  unfold downN
  have := Nat.div_mul_le_self x.toNat (2 ^ n.toNat)
  omega


theorem le_pow64 (n : Nat) (h : n ≤ 64) : (2 : Nat) ^ n ≤ 18446744073709551616 := by
  rw [← pow64]; exact Nat.pow_le_pow_right (by decide) h

/-- w&^(m<<lo) | v&m<<lo, as the walk spells it. -/
theorem put_walk (x hi lo v : Int) (hx : 0 ≤ x ∧ x < 18446744073709551616) (hv : 0 ≤ v ∧ v < 18446744073709551616) (hm : mayB hi lo = true) :
    bits .or .u64 (bits .andNot .u64 x (IntKind.u64.wrap ((maskN (hi - lo + 1) : Int) * 2 ^ lo.toNat))) (IntKind.u64.wrap (bits .and .u64 v (maskN (hi - lo + 1) : Int) * 2 ^ lo.toNat)) = (putN x hi lo v : Int) := by
  obtain ⟨n, rfl⟩ := Int.eq_ofNat_of_zero_le hx.1
  obtain ⟨u, rfl⟩ := Int.eq_ofNat_of_zero_le hv.1
  have hm' := hm
  simp only [mayB, decide_eq_true_eq] at hm'
  obtain ⟨h0, h1, h2⟩ := hm'
  have hk : maskN (hi - lo + 1) = 2 ^ (hi - lo + 1).toNat - 1 := by
    unfold maskN; rw [Nat.min_eq_left (by omega)]
  have hpos : 0 < (2 : Nat) ^ (hi - lo + 1).toNat := Nat.pow_pos (by decide)
  have hpl : 0 < (2 : Nat) ^ lo.toNat := Nat.pow_pos (by decide)
  have hle : (2 : Nat) ^ (hi - lo + 1).toNat * 2 ^ lo.toNat ≤ 18446744073709551616 := by
    rw [← Nat.pow_add]; exact le_pow64 _ (by omega)
  have hm1 : (2 ^ (hi - lo + 1).toNat - 1) * 2 ^ lo.toNat < 18446744073709551616 :=
    Nat.lt_of_lt_of_le ((Nat.mul_lt_mul_right hpl).2 (by omega)) hle
  have hv1 : u % 2 ^ (hi - lo + 1).toNat * 2 ^ lo.toNat < 18446744073709551616 :=
    Nat.lt_of_lt_of_le ((Nat.mul_lt_mul_right hpl).2 (Nat.mod_lt _ hpos)) hle
  have ep : ((2 : Int) ^ lo.toNat) = ((2 ^ lo.toNat : Nat) : Int) := by simp
  have hkl : 2 ^ (hi - lo + 1).toNat - 1 < 18446744073709551616 := by have := maskN_lt (hi - lo + 1); omega
  rw [hk, ep, bits_and_u64_nat u _ (by omega) hkl, and_mask, ← Int.natCast_mul, ← Int.natCast_mul, wrap_u64_id _ (by omega), wrap_u64_id _ (by omega), bits_andNot_u64_nat _ _ (by omega) hm1,
    bits_or_u64_nat _ _ (Nat.lt_of_le_of_lt Nat.and_le_left (by omega)) hv1]
  unfold putN
  rw [if_pos hm]
  simp only [Int.toNat_natCast]

def signedZ (x n : Int) : Int :=
  if 1 ≤ n ∧ n ≤ 63 then (if 2 ^ (n.toNat - 1) ≤ x.toNat % 2 ^ n.toNat then ((x.toNat % 2 ^ n.toNat : Nat) : Int) - ((2 ^ n.toNat : Nat) : Int) else ((x.toNat % 2 ^ n.toNat : Nat) : Int)) else 0
def fitsB (v n : Int) : Bool := decide (1 ≤ n ∧ n ≤ 63 ∧ -((2 ^ (n.toNat - 1) : Nat) : Int) ≤ v ∧ v < ((2 ^ (n.toNat - 1) : Nat) : Int))
def alignedB (x n : Int) : Bool := decide (x.toNat % 2 ^ n.toNat = 0)
def slotZ (a level : Int) : Int := if level = 1 then getN a 29 21 else if level = 2 then getN a 20 12 else 0

theorem le_pow63 (n : Nat) (h : n ≤ 63) : (2 : Nat) ^ n ≤ 9223372036854775808 := by
  have e : (2 : Nat) ^ 63 = 9223372036854775808 := by decide
  rw [← e]; exact Nat.pow_le_pow_right (by decide) h

theorem low_walk (x n : Int) (hx : 0 ≤ x ∧ x < 18446744073709551616) (h1 : n ≤ 63) :
    wrap64 (bits .and .u64 x (maskN n)) = ((x.toNat % 2 ^ n.toNat : Nat) : Int) := by
  obtain ⟨m, rfl⟩ := Int.eq_ofNat_of_zero_le hx.1
  rw [maskN_small n (by omega), bits_and_u64_nat _ _ (by omega) (by have := maskN_lt n; rw [maskN_small n (by omega)] at this; exact this), and_mask, Int.toNat_natCast]
  have hp := le_pow63 n.toNat (by omega)
  have h2 := Nat.mod_lt m (Nat.pow_pos (n := n.toNat) (show 0 < 2 by decide))
  exact IntWalk.wrap64_in _ (by omega)

theorem down_walk (x n : Int) (hx : 0 ≤ x ∧ x < 18446744073709551616) :
    bits .andNot .u64 x (maskN n) = (downN x n : Int) := by
  obtain ⟨m, rfl⟩ := Int.eq_ofNat_of_zero_le hx.1
  rw [bits_andNot_u64_nat _ _ (by omega) (maskN_lt n)]
  congr 1
  unfold downN
  rw [Int.toNat_natCast]
  apply Nat.eq_of_testBit_eq
  intro i
  rw [Nat.testBit_and, Nat.testBit_xor, Nat.testBit_two_pow_sub_one, maskN, Nat.testBit_two_pow_sub_one, Nat.testBit_mul_two_pow]
  by_cases hi : i < 64
  · by_cases hn : n.toNat ≤ i
    · have e : i - n.toNat + n.toNat = i := by omega
      rw [Nat.testBit_div_two_pow, e]
      simp [hi, hn]; omega
    · simp [hi, hn]; omega
  · have : m.testBit i = false := Nat.testBit_lt_two_pow (Nat.lt_of_lt_of_le (by omega : m < 2 ^ 64) (Nat.pow_le_pow_right (by decide) (by omega)))
    rw [Nat.testBit_div_two_pow]
    by_cases hn : n.toNat ≤ i
    · have e : i - n.toNat + n.toNat = i := by omega
      rw [e]; simp [this]
    · simp [this, hn]

theorem aligned_walk (x n : Int) (hx : 0 ≤ x ∧ x < 18446744073709551616) :
    (bits .and .u64 x (maskN n) == 0) = alignedB x n := by
  obtain ⟨m, rfl⟩ := Int.eq_ofNat_of_zero_le hx.1
  rw [bits_and_u64_nat _ _ (by omega) (maskN_lt n), maskN, and_mask]
  unfold alignedB
  rw [Int.toNat_natCast]
  have e : m % 2 ^ (min n.toNat 64) = m % 2 ^ n.toNat := by
    by_cases h : n.toNat ≤ 64
    · rw [Nat.min_eq_left h]
    · rw [Nat.min_eq_right (by omega), Nat.mod_eq_of_lt (by omega), Nat.mod_eq_of_lt]
      exact Nat.lt_of_lt_of_le (by omega : m < 2 ^ 64) (Nat.pow_le_pow_right (by decide) (by omega))
  rw [e]
  rw [Bool.eq_iff_iff, beq_iff_eq, decide_eq_true_eq]; exact Int.natCast_eq_zero

theorem getN_field (x hi lo : Int) (k : Nat) (hk : (hi - lo + 1).toNat ≤ k) : getN x hi lo < 2 ^ k := by
  unfold getN
  split
  · exact Nat.lt_of_lt_of_le (Nat.mod_lt _ (Nat.pow_pos (by decide))) (Nat.pow_le_pow_right (by decide) hk)
  · exact Nat.pow_pos (by decide)


theorem two_pow_cast (k : Nat) : ((2 : Int) ^ k) = ((2 ^ k : Nat) : Int) := by simp

theorem signed_facts (x n : Int) (hx : 0 ≤ x ∧ x < 18446744073709551616) (hn : 1 ≤ n ∧ n ≤ 63) :
    ∃ r : Nat, wrap64 (bits .and .u64 x (maskN n)) = (r : Int) ∧
      ((((r : Int) / 2 ^ (n.toNat - 1) == 1) = true ∧ wrap64 ((r : Int) - wrap64 ((2 : Int) ^ n.toNat)) = signedZ x n) ∨
       (((r : Int) / 2 ^ (n.toNat - 1) == 1) = false ∧ signedZ x n = (r : Int))) := by
  have hs : signedZ x n = if 2 ^ (n.toNat - 1) ≤ x.toNat % 2 ^ n.toNat then ((x.toNat % 2 ^ n.toNat : Nat) : Int) - ((2 ^ n.toNat : Nat) : Int) else ((x.toNat % 2 ^ n.toNat : Nat) : Int) := by
    unfold signedZ; rw [if_pos hn]
  refine ⟨x.toNat % 2 ^ n.toNat, low_walk x n hx hn.2, ?_⟩
  have hr : x.toNat % 2 ^ n.toNat < 2 ^ n.toNat := Nat.mod_lt _ (Nat.pow_pos (by decide))
  have hp := le_pow63 n.toNat (by omega)
  have h2 : (2 : Nat) ^ n.toNat = 2 ^ (n.toNat - 1) * 2 := by rw [← Nat.pow_succ]; congr 1; omega
  have hq : 0 < (2 : Nat) ^ (n.toNat - 1) := Nat.pow_pos (by decide)
  rw [hs, two_pow_cast, two_pow_cast, ← Int.natCast_ediv]
  clear hs
  generalize x.toNat % 2 ^ n.toNat = r at *
  generalize (2 : Nat) ^ n.toNat = M at *
  generalize (2 : Nat) ^ (n.toNat - 1) = M1 at *
  by_cases hc : M1 ≤ r
  · left
    have : r / M1 = 1 := Nat.div_eq_of_lt_le (by omega) (by omega)
    rw [this, if_pos hc]
    refine ⟨rfl, ?_⟩
    unfold wrap64; omega
  · right
    have : r / M1 = 0 := Nat.div_eq_of_lt (by omega)
    rw [this, if_neg hc]
    exact ⟨rfl, rfl⟩

theorem fits_eq (v n : Int) (hn : 1 ≤ n ∧ n ≤ 63) : fitsB v n = (decide (wrap64 (-2 ^ (n.toNat - 1)) ≤ v) && decide (v < wrap64 (2 ^ (n.toNat - 1)))) := by
  have h3 : (2 : Nat) ^ (n.toNat - 1) ≤ 4611686018427387904 := by
    have e : (2 : Nat) ^ 62 = 4611686018427387904 := by decide
    rw [← e]; exact Nat.pow_le_pow_right (by decide) (by omega)
  unfold fitsB
  rw [two_pow_cast]
  generalize (2 : Nat) ^ (n.toNat - 1) = M at *
  rw [IntWalk.wrap64_in _ (by omega), IntWalk.wrap64_in _ (by omega), Bool.eq_iff_iff]
  simp only [decide_eq_true_eq, Bool.and_eq_true]; omega


theorem aligned_eq (x n : Int) (hx : 0 ≤ x) : ((downN x n : Int) == x) = alignedB x n := by
  unfold alignedB downN
  have h := Nat.div_add_mod x.toNat (2 ^ n.toNat)
  rw [Nat.mul_comm] at h
  rw [Bool.eq_iff_iff, beq_iff_eq, decide_eq_true_eq]
  omega


theorem signed_range (x n : Int) (hn : 1 ≤ n ∧ n ≤ 63) : -((2 ^ (n.toNat - 1) : Nat) : Int) ≤ signedZ x n ∧ signedZ x n < ((2 ^ (n.toNat - 1) : Nat) : Int) := by
  have h2 : (2 : Nat) ^ n.toNat = 2 ^ (n.toNat - 1) * 2 := by rw [← Nat.pow_succ]; congr 1; omega
  have hr : x.toNat % 2 ^ n.toNat < 2 ^ n.toNat := Nat.mod_lt _ (Nat.pow_pos (by decide))
  unfold signedZ
  rw [if_pos hn]
  generalize x.toNat % 2 ^ n.toNat = r at *
  rw [h2] at hr ⊢
  generalize 2 ^ (n.toNat - 1) = M at *
  split <;> omega

theorem fits_signed (x n : Int) (hn : 1 ≤ n ∧ n ≤ 63) : fitsB (signedZ x n) n = true := by
  have := signed_range x n hn
  unfold fitsB
  rw [decide_eq_true_eq]; omega

theorem wrap_u64_range (v : Int) : 0 ≤ IntKind.u64.wrap v ∧ IntKind.u64.wrap v < 18446744073709551616 := by rw [IntKind.wrap_u64]; omega

theorem fits_back (n v : Int) (hn : 1 ≤ n ∧ n ≤ 63) : (signedZ (IntKind.u64.wrap v) n == v) = fitsB v n := by
  have hrange := signed_range (IntKind.u64.wrap v) n hn
  have hM1 : 0 < (2 : Nat) ^ (n.toNat - 1) := Nat.pow_pos (by decide)
  have h2 : (2 : Nat) ^ n.toNat = 2 ^ (n.toNat - 1) * 2 := by rw [← Nat.pow_succ]; congr 1; omega
  have hmod : (((IntKind.u64.wrap v).toNat % 2 ^ n.toNat : Nat) : Int) = v % ((2 ^ n.toNat : Nat) : Int) := by
    have hw := wrap_u64_range v
    rw [Int.natCast_emod, Int.toNat_of_nonneg hw.1, IntKind.wrap_u64]
    refine Int.emod_emod_of_dvd v ?_
    rw [show (18446744073709551616 : Int) = ((2 ^ 64 : Nat) : Int) by decide]
    exact Int.natCast_dvd_natCast.2 (Nat.pow_dvd_pow 2 (by omega))
  rw [Bool.eq_iff_iff, beq_iff_eq]
  unfold fitsB
  rw [decide_eq_true_eq]
  constructor
  · intro h; rw [h] at hrange; omega
  · rintro ⟨_, _, h3, h4⟩
    unfold signedZ
    rw [if_pos hn]
    generalize (IntKind.u64.wrap v).toNat % 2 ^ n.toNat = r at *
    rw [h2] at hmod ⊢
    generalize 2 ^ (n.toNat - 1) = M at *
    by_cases hv : 0 ≤ v
    · rw [Int.emod_eq_of_lt hv (by omega)] at hmod
      rw [if_neg (by omega)]; omega
    · have e : v % ((M * 2 : Nat) : Int) = v + ((M * 2 : Nat) : Int) := by
        rw [← Int.add_emod_right, Int.emod_eq_of_lt (by omega) (by omega)]
      rw [e] at hmod
      rw [if_pos (by omega)]; omega

theorem slot_one (a : Int) : slotZ a 1 = (getN a 29 21 : Int) := by simp [slotZ]
theorem slot_two (a : Int) : slotZ a 2 = (getN a 20 12 : Int) := by simp [slotZ]
theorem slots_make (a : Int) (ha : 0 ≤ a) (hlt : a < 1073741824) : (getN a 29 21 : Int) * 2097152 + (getN a 20 12 : Int) * 4096 + a % 4096 = a := by
  have e1 : getN a 29 21 = a.toNat / 2097152 % 512 := by unfold getN; rw [if_pos (by decide)]; rfl
  have e2 : getN a 20 12 = a.toNat / 4096 % 512 := by unfold getN; rw [if_pos (by decide)]; rfl
  rw [e1, e2]; omega


theorem testBit_big (x : Int) (hx : 0 ≤ x ∧ x < 18446744073709551616) (i : Nat) (h : 64 ≤ i) : x.toNat.testBit i = false :=
  Nat.testBit_lt_two_pow (Nat.lt_of_lt_of_le (by omega : x.toNat < 2 ^ 64) (Nat.pow_le_pow_right (by decide) h))

theorem putN_testBit (x hi lo v : Int) (hx : 0 ≤ x ∧ x < 18446744073709551616) (hm : mayB hi lo = true) (i : Nat) :
    (putN x hi lo v).testBit i = if lo.toNat ≤ i ∧ i ≤ hi.toNat then v.toNat.testBit (i - lo.toNat) else x.toNat.testBit i := by
  have hm' := hm
  simp only [mayB, decide_eq_true_eq] at hm'
  obtain ⟨h0, h1, h2⟩ := hm'
  unfold putN
  rw [if_pos hm, Nat.testBit_or, Nat.testBit_and, Nat.testBit_xor, Nat.testBit_two_pow_sub_one, Nat.testBit_mul_two_pow, Nat.testBit_mul_two_pow, Nat.testBit_two_pow_sub_one, Nat.testBit_mod_two_pow]
  by_cases h64 : i < 64
  · by_cases hc : lo.toNat ≤ i ∧ i ≤ hi.toNat
    · rw [if_pos hc]
      have : i - lo.toNat < (hi - lo + 1).toNat := by omega
      simp [h64, hc.1, this]
    · rw [if_neg hc]
      by_cases h3 : lo.toNat ≤ i
      · have : ¬ i - lo.toNat < (hi - lo + 1).toNat := by omega
        simp [h64, this]
      · simp [h64, h3]
  · rw [testBit_big x hx i (by omega), if_neg (by omega)]
    have : ¬ i - lo.toNat < (hi - lo + 1).toNat := by omega
    simp [this]

theorem getN_testBit (x hi lo : Int) (hm : mayB hi lo = true) (i : Nat) :
    (getN x hi lo).testBit i = (decide (i < (hi - lo + 1).toNat) && x.toNat.testBit (i + lo.toNat)) := by
  unfold getN
  rw [if_pos hm, Nat.testBit_mod_two_pow, Nat.testBit_div_two_pow]

theorem get_put (x hi lo v : Int) (hx : 0 ≤ x ∧ x < 18446744073709551616) (hm : mayB hi lo = true) :
    getN (putN x hi lo v) hi lo = getN v (hi - lo) 0 := by
  have hm' := hm
  simp only [mayB, decide_eq_true_eq] at hm'
  obtain ⟨h0, h1, h2⟩ := hm'
  have hm2 : mayB (hi - lo) 0 = true := by simp only [mayB, decide_eq_true_eq]; omega
  apply Nat.eq_of_testBit_eq
  intro i
  rw [getN_testBit _ _ _ hm, getN_testBit _ _ _ hm2, Int.toNat_natCast, putN_testBit x hi lo v hx hm]
  have e0 : (0 : Int).toNat = 0 := rfl
  by_cases hi' : i < (hi - lo + 1).toNat
  · rw [if_pos (by omega), show i + lo.toNat - lo.toNat = i by omega, e0, Nat.add_zero, Int.sub_zero]
  · have h3 : ¬ i < (hi - lo - 0 + 1).toNat := by omega
    simp [hi']

theorem put_beside (x a b v c d u : Int) (hx : 0 ≤ x ∧ x < 18446744073709551616) (hab : mayB a b = true) (hcd : mayB c d = true) (hapart : ¬ (d ≤ a ∧ b ≤ c)) :
    putN (putN x a b v) c d u = putN (putN x c d u) a b v := by
  have h1 := putN_lt x a b v hx
  have h2 := putN_lt x c d u hx
  have hab' := hab
  have hcd' := hcd
  simp only [mayB, decide_eq_true_eq] at hab' hcd'
  apply Nat.eq_of_testBit_eq
  intro i
  rw [putN_testBit _ c d u (by omega) hcd, putN_testBit _ a b v (by omega) hab, Int.toNat_natCast, Int.toNat_natCast, putN_testBit x a b v hx hab, putN_testBit x c d u hx hcd]
  by_cases e1 : d.toNat ≤ i ∧ i ≤ c.toNat
  · rw [if_pos e1, if_neg (by omega), if_pos e1]
  · rw [if_neg e1, if_neg e1]

theorem get_beside (x a b v c d u : Int) (hx : 0 ≤ x ∧ x < 18446744073709551616) (hab : mayB a b = true) (hcd : mayB c d = true) (hapart : ¬ (d ≤ a ∧ b ≤ c)) :
    getN (putN (putN x a b v) c d u) a b = getN v (a - b) 0 := by
  have h2 := putN_lt x c d u hx
  rw [put_beside x a b v c d u hx hab hcd hapart]
  exact get_put _ a b v (by omega) hab


theorem compl_u64 (v : Int) (hv : 0 ≤ v ∧ v < 18446744073709551616) : ∃ u : Nat, bits BinOp.xor IntKind.u64 IntKind.u64.max v = (u : Int) ∧ u < 18446744073709551616 := by
  obtain ⟨n, rfl⟩ := Int.eq_ofNat_of_zero_le hv.1
  have e : IntKind.u64.max = ((18446744073709551615 : Nat) : Int) := by decide
  rw [e, bits_xor_u64_nat _ _ (by decide) (by omega)]
  refine ⟨_, rfl, ?_⟩
  rw [← pow64]
  exact Nat.xor_lt_two_pow (by decide) (by omega)

end Go.Proofs.YtcaifejfkpmeeaaGreat
namespace Go.Proofs.YtcaifejfkpmeeaaGreat
open Go.RowKit

theorem slice_digit (r : Nat) (h : r < 16) (wx : World) :
    (Instr.slice 9 (.string { data := #[48, 49, 50, 51, 52, 53, 54, 55, 56, 57, 97, 98, 99, 100, 101, 102] }) (some (.int .u64 (r : Int))) (some (.int .u64 ((r : Int) + 1))) none).run Tryz.prog wx = .ok (.string (ba [dg r])) wx := by
  rw [run_slice_string wx 9 _ _ _ _ _ Tryz.underlying9 (by omega) (by omega) (by show (r : Int) + 1 ≤ 16; omega)]
  have e : ((r : Int) + 1).toNat = r + 1 := by omega
  rw [Int.toNat_natCast, e, dg_slice r h]

def DecSaid (n : Nat) : Prop := n < 18446744073709551616 → ∀ w : World, Calls Tryz.prog 99 #[.int .u64 (n : Int)] w fun e w' => e = .returned (.string (ba (txt 10 n))) ∧ ∃ m, w' = w.drewN m

theorem dec_step (n : Nat) (ih : ∀ k, k < n → DecSaid k) : DecSaid n := by
  intro hn w
  by_cases h : n < 10
  · have H := Lib.hid (txt_small 10 n h)
    have HS := Lib.hid (dg_slice n (by omega))
    have IH := Lib.hid ih
    clear ih
    go_enter Tryz.func99, Tryz.ntmps99
    go_wp2
    go_ret
    exact ⟨ret_val (congrArg Value.string (HS.out.trans (congrArg ba H.out.symm))), 0, rfl⟩
  · have IH := Lib.hid (ih (n / 10) (by omega))
    have H := Lib.hid (txt_step 10 n (by decide) (by omega))
    have hr : n % 10 < 10 := Nat.mod_lt _ (by decide)
    have hq : n / 10 < 18446744073709551616 := by omega
    have HS := Lib.hid (dg_slice (n % 10) (by omega))
    have e1 : IntKind.u64.wrap ((n : Int) / 10) = ((n / 10 : Nat) : Int) := by rw [wrap_u64_id _ (by omega)]; omega
    have e2 : (n : Int).tmod 10 = ((n % 10 : Nat) : Int) := by rw [Int.tmod_eq_emod_of_nonneg (by omega)]; omega
    have e4 : (n : Int) % 10 = ((n % 10 : Nat) : Int) := by omega
    clear ih
    generalize n / 10 = q at *
    generalize n % 10 = r at *
    have e3 : IntKind.u64.wrap ((r : Int) + 1) = (r : Int) + 1 := wrap_u64_id _ (by omega)
    have hsl := slice_digit r (by omega)
    have hcat := cat_ba (P := Tryz.prog) (txt 10 q) [dg r] (by have := txt_len64 10 q (by decide) hq; simp; omega)
    go_enter Tryz.func99, Tryz.ntmps99
    go_wp2_with fail
    go_quiet ((go_at_call 99; exact quiet_of (IH.out hq _)))
    go_wp2
    go_ret
    exact ⟨ret_val (congrArg Value.string (congrArg ba H.out.symm)), _, rfl⟩

theorem dec_all (n : Nat) : DecSaid n := Nat.strongRecOn n dec_step
theorem dec_any (x : Int) (w : World) (hx : 0 ≤ x ∧ x < 18446744073709551616) :
    Calls Tryz.prog 99 #[.int .u64 x] w fun e w' => e = .returned (.string (ba (txt 10 x.toNat))) ∧ ∃ m, w' = w.drewN m := by
  obtain ⟨n, rfl⟩ := Int.eq_ofNat_of_zero_le hx.1
  rw [Int.toNat_natCast]
  exact dec_all n (by omega) w

def intL (n : Int) : List UInt8 := if n < 0 then [45] ++ txt 10 (-n).toNat else txt 10 n.toNat

theorem int_any (n : Int) (w : World) (hn : -9223372036854775808 ≤ n ∧ n ≤ 9223372036854775807) :
    Calls Tryz.prog 79 #[.int .i64 n] w fun e w' => e = .returned (.string (ba (intL n))) ∧ ∃ m, w' = w.drewN m := by
  by_cases h : n < 0
  · have H := Lib.hid (show intL n = [45] ++ txt 10 (-n).toNat by unfold intL; rw [if_pos h])
    go_enter Tryz.func79, Tryz.ntmps79
    have e1 : IntKind.u64.wrap (wrap64 (-n)) = -n := by rw [IntKind.wrap_u64]; unfold wrap64; omega
    have b1 := txt_len64 10 (-n).toNat (by decide) (by omega)
    have hcat := cat_ba (P := Tryz.prog) [45] (txt 10 (-n).toNat) (by simp; omega)
    have hcat' : ∀ wx : World, (Op.stringOp .add { data := #[45] } (ba (txt 10 (-n).toNat))).run Tryz.prog wx = .ok (.string (ba ([45] ++ txt 10 (-n).toNat))) wx := hcat
    clear hcat b1
    go_wp2_with (go_at_call 99; refine (dec_any _ _ (by omega)).mono ?_; rintro e w' ⟨rfl, m, rfl⟩)
    go_ret
    exact ⟨ret_val (congrArg Value.string (congrArg ba H.out.symm)), _, rfl⟩
  · have H := Lib.hid (show intL n = txt 10 n.toNat by unfold intL; rw [if_neg h])
    go_enter Tryz.func79, Tryz.ntmps79
    go_wp2_with (go_at_call 99; refine (dec_any _ _ (by omega)).mono ?_; rintro e w' ⟨rfl, m, rfl⟩)
    go_ret
    exact ⟨ret_val (congrArg Value.string (congrArg ba H.out.symm)), _, rfl⟩

end Go.Proofs.YtcaifejfkpmeeaaGreat
namespace Go.Proofs.YtcaifejfkpmeeaaGreat
open Go.RowKit

/-- Block g holds just these cells, none of them frozen. -/
def Blk (w : World) (T : TypeId) (g : Nat) (cs : List Value) : Prop := w.heap[g]? = some (.cells cs.toArray T (0, 0))
section
variable {w w' : World} {T : TypeId} {g : Nat} {cs : List Value}
theorem Blk.new (w : World) (T : TypeId) (cs : List Value) : Blk (w.alloc (.cells cs.toArray T)) T w.heap.size cs := heap_alloc_new w _
theorem Blk.lt (h : Blk w T g cs) : g < w.heap.size := (Array.getElem?_eq_some_iff.1 h).1
theorem Blk.cell (h : Blk w T g cs) (j : Nat) : w.cell? ⟨g, j, none⟩ = cs[j]? := by rw [cell_of_row _ _ _ _ _ _ h]; simp
theorem Blk.free (h : Blk w T g cs) (j : Nat) : w.frozen? ⟨g, j, none⟩ = false := frozen_of_row w g j _ T h
theorem Blk.below (h : Blk w T g cs) (hb : Below w.heap.size w w') : Blk w' T g cs := (hb.block g h.lt).trans h
theorem Blk.belowB {B : Nat} (h : Blk w T g cs) (hb : Below B w w') (hB : g < B) : Blk w' T g cs := (hb.block g hB).trans h
theorem Blk.kept {row : Option Nat} (h : Blk w T g cs) (hg : w.grownBy w' row) (hne : some g ≠ row) : Blk w' T g cs := (hg.block g h.lt hne).trans h
theorem Blk.alloc (h : Blk w T g cs) (o : Obj) : Blk (w.alloc o) T g cs := (Below.heap_alloc w o g h.lt).trans h
theorem Blk.dn (h : Blk w T g cs) (k : Nat) : Blk (w.drewN k) T g cs := h
theorem Blk.set (h : Blk w T g cs) (j : Nat) (v : Value) : Blk (w.setCell ⟨g, j, none⟩ v) T g (cs.set j v) := by
  unfold Blk; rw [heap_setCell_same w g j _ T _ h]; simp
theorem Blk.other (h : Blk w T g cs) {p : Addr} (hne : g ≠ p.block) (v : Value) : Blk (w.setCell p v) T g cs :=
  (Below.heap_setCell w p v g hne).trans h
end
theorem cell_alloc {w : World} {p : Addr} {u : Value} (h : w.cell? p = some u) (o : Obj) : (w.alloc o).cell? p = some u := (World.cell?_alloc_lt w o p (World.block_lt_of_cell? w p h)).trans h
theorem cell_below {w w' : World} {p : Addr} {u : Value} (h : w.cell? p = some u) (hb : Below w.heap.size w w') : w'.cell? p = some u := (hb.cell (World.block_lt_of_cell? w p h)).trans h
end Go.Proofs.YtcaifejfkpmeeaaGreat
namespace Go.Proofs.YtcaifejfkpmeeaaGreat
open Go.RowKit

/-- n elements of so many cells each lie at p. -/
def Rds (w : World) (size : Nat) (p : Option Addr) (n : Nat) (xs : List Value) : Prop :=
  xs.length = n * size ∧ (0 < n → ∃ g off, p = some ⟨g, off, none⟩ ∧ ∀ j, j < n * size → w.cell? ⟨g, off + j, none⟩ = xs[j]?)
section
variable {w w' : World} {size n : Nat} {p : Option Addr} {xs : List Value}
theorem Rds.of_read {v : Value} (h : readRow w v n xs) : ∃ p c, v = .slice p n c ∧ Rds w 1 p n xs ∧ n ≤ c ∧ c ≤ maxLen := by
  obtain ⟨hl, ⟨rfl, rfl⟩ | ⟨g, off, c, rfl, h3, h4, hc⟩⟩ := h
  · exact ⟨_, _, rfl, ⟨by simpa using hl, fun h => absurd h (by omega)⟩, Nat.le_refl _, by unfold maxLen; omega⟩
  · exact ⟨_, _, rfl, ⟨by simpa using hl, fun _ => ⟨g, off, rfl, fun j hj => hc j (by omega)⟩⟩, h3, h4⟩
theorem Rds.keep (h : Rds w size p n xs) (hk : ∀ (a : Addr) (v : Value), w.cell? a = some v → w'.cell? a = some v) : Rds w' size p n xs := by
  refine ⟨h.1, fun hn => ?_⟩
  obtain ⟨g, off, hp, hc⟩ := h.2 hn
  refine ⟨g, off, hp, fun j hj => ?_⟩
  have h1 := hc j hj
  rw [List.getElem?_eq_getElem (show j < xs.length by have := h.1; omega)] at h1 ⊢
  exact hk _ _ h1
theorem Rds.below (h : Rds w size p n xs) (hb : Below w.heap.size w w') : Rds w' size p n xs := h.keep fun _ _ hc => (hb.cell (World.block_lt_of_cell? w _ hc)).trans hc
theorem Rds.dn (h : Rds w size p n xs) (k : Nat) : Rds (w.drewN k) size p n xs := h
theorem Rds.at_ (h : Rds w size p n xs) {j : Nat} (hj : j < n * size) : ∃ g off u, p = some ⟨g, off, none⟩ ∧ xs[j]? = some u ∧ w.cell? ⟨g, off + j, none⟩ = some u := by
  have hn : 0 < n := by
    rcases Nat.eq_zero_or_pos n with h0 | h0
    · subst h0; omega
    · exact h0
  obtain ⟨g, off, hp, hc⟩ := h.2 hn
  have hl : j < xs.length := by have := h.1; omega
  exact ⟨g, off, xs[j], hp, List.getElem?_eq_getElem hl, (hc j hj).trans (List.getElem?_eq_getElem hl)⟩
/-- Of numbers. -/
theorem Rds.int_at {k : IntKind} {zs : List Int} (h : Rds w 1 p zs.length (zs.map (Value.int k))) {j : Nat} (hj : j < zs.length) : ∃ g off, p = some ⟨g, off, none⟩ ∧ w.cell? ⟨g, off + j, none⟩ = some (.int k (zs.getD j 0)) := by
  obtain ⟨g, off, u, hp, hu, hc⟩ := h.at_ (j := j) (by omega)
  refine ⟨g, off, hp, ?_⟩
  rw [hc, ← hu]
  simp [List.getD, List.getElem?_eq_getElem hj]
end
theorem Rds.of_own {w : World} {base : Nat} {e : TypeId} {size : Nat} {v : Value} {n : Nat} {xs : List Value} (h : w.ownsRow base e size v n xs) : ∃ p c, v = .slice p n c ∧ Rds w size p n xs ∧ n ≤ c := by
  have h' := h
  obtain ⟨hl, ⟨rfl, rfl⟩ | ⟨g, cap, cur, rfl, hb, hg, hnc, hc, _⟩⟩ := h
  · exact ⟨_, _, rfl, ⟨hl, fun h => absurd h (by omega)⟩, Nat.le_refl _⟩
  · exact ⟨_, _, rfl, ⟨hl, fun _ => ⟨g, 0, rfl, fun j hj => by rw [Nat.zero_add]; exact h'.cellAt j (by omega)⟩⟩, hnc⟩
end Go.Proofs.YtcaifejfkpmeeaaGreat
namespace Go.Proofs.YtcaifejfkpmeeaaGreat
open Go.RowKit

/-- A number of 64 bits with its sign. -/
abbrev I64 (n : Int) : Prop := -9223372036854775808 ≤ n ∧ n ≤ 9223372036854775807
theorem toList_ne {a b : ByteArray} (h : ¬ a = b) : (a.toList == b.toList) = false := by
  rw [beq_eq_false_iff_ne]
  intro e
  rw [toList_ba, toList_ba] at e
  exact h (ByteArray.ext (Array.toList_inj.1 e))
theorem Rds.grownR {w w' : World} {size n : Nat} {p : Option Addr} {xs : List Value} {row : Option Nat} (h : Rds w size p n xs) (hg : w.grownBy w' row) (hne : ∀ a, p = some a → some a.block ≠ row) : Rds w' size p n xs := by
  refine ⟨h.1, fun hn => ?_⟩
  obtain ⟨g, off, hp, hc⟩ := h.2 hn
  refine ⟨g, off, hp, fun j hj => ?_⟩
  have h1 := hc j hj
  rw [List.getElem?_eq_getElem (show j < xs.length by have := h.1; omega)] at h1 ⊢
  exact hg.cell h1 (hne ⟨g, off, none⟩ hp)
theorem grown_below {w w' : World} {row : Option Nat} (hb : Below w.heap.size w w') : w.grownBy w' row := ⟨hb.os, hb.tape, hb.output, hb.size, fun i hi _ => hb.block i hi⟩
theorem grown_thenR {a b c : World} {row : Option Nat} (h : a.grownBy b row) (k : b.grownBy c row) : a.grownBy c row :=
  ⟨k.os.trans h.os, k.tape.trans h.tape, k.output.trans h.output, Nat.le_trans h.size k.size, fun i hi hne => (k.block i (Nat.lt_of_lt_of_le hi h.size) hne).trans (h.block i hi hne)⟩
theorem grown_setR (w : World) (b j : Nat) (v : Value) : w.grownBy (w.setCell ⟨b, j, none⟩ v) (some b) :=
  ⟨rfl, rfl, rfl, by simp, fun k _ hne => Below.heap_setCell w _ v k (fun e => hne (by rw [e]))⟩
end Go.Proofs.YtcaifejfkpmeeaaGreat
namespace Go.Proofs.YtcaifejfkpmeeaaGreat
open Go.RowKit
set_option linter.unusedVariables false

set_option linter.unusedSimpArgs false

/-- A register's name. -/
def regL (n : Int) : List UInt8 := if n = 31 then [88, 90, 82] else if 0 ≤ n ∧ n < 31 then [88] ++ intL n else []
theorem intL_len (n : Int) (h : -9223372036854775808 ≤ n ∧ n ≤ 9223372036854775807) : (intL n).length ≤ 65 := by
  unfold intL
  split
  · have := txt_len64 10 (-n).toNat (by decide) (by omega)
    simp; omega
  · have := txt_len64 10 n.toNat (by decide) (by omega)
    omega
theorem regasm_any (n : Int) (w : World) (hn : -9223372036854775808 ≤ n ∧ n ≤ 9223372036854775807) :
    Calls Tryz.prog 58 #[.int .i64 n] w fun e w' => e = .returned (.string (ba (regL n))) ∧ ∃ m, w' = w.drewN m := by
  by_cases h31 : n = 31
  · subst h31
    go_enter Tryz.func58, Tryz.ntmps58
    go_wp2_with fail
    go_ret
    exact ⟨rfl, 0, rfl⟩
  · by_cases hr : 0 ≤ n ∧ n < 31
    · have H := Lib.hid (show regL n = [88] ++ intL n by unfold regL; rw [if_neg h31, if_pos hr])
      obtain ⟨h0, h1⟩ := hr
      have b1 := intL_len n hn
      have hcat : ∀ wx : World, (Op.stringOp .add { data := #[88] } (ba (intL n))).run Tryz.prog wx = .ok (.string (ba ([88] ++ intL n))) wx := cat_ba (P := Tryz.prog) [88] (intL n) (by simp; omega)
      have HI := Lib.hid (fun w1 : World => int_any n w1 hn)
      go_enter Tryz.func58, Tryz.ntmps58
      go_wp2_with fail
      refine (HI.out _).mono ?_
      rintro e w' ⟨rfl, m, rfl⟩
      go_wp2_with fail
      go_ret
      exact ⟨by rw [H.out]; rfl, _, rfl⟩
    · have H := Lib.hid (show regL n = [] by unfold regL; rw [if_neg h31, if_neg hr])
      by_cases h0 : 0 ≤ n
      · have h1 : ¬ n < 31 := fun h => hr ⟨h0, h⟩
        go_enter Tryz.func58, Tryz.ntmps58
        go_wp2_with fail
        go_ret
        exact ⟨by rw [H.out]; rfl, 0, rfl⟩
      · go_enter Tryz.func58, Tryz.ntmps58
        go_wp2_with fail
        go_ret
        exact ⟨by rw [H.out]; rfl, 0, rfl⟩
/-- Which register a text names: the first of the 32 names that it is. -/
def regN (s : ByteArray) : Option Nat := (List.range 32).find? fun j => decide (s = ba (regL (j : Nat)))
theorem regN_lt {s : ByteArray} {j : Nat} (h : regN s = some j) : j < 32 := by
  unfold regN at h
  rw [List.find?_range_eq_some] at h
  simpa using h.2.1
def regNV : Option Nat → Value
  | some j => .tuple #[.int .i64 (j : Nat), .bool true]
  | none => .tuple #[.int .i64 0, .bool false]
theorem regN_hit {s : ByteArray} {j : Nat} (hj : j < 32) (h : s = ba (regL (j : Nat))) (hp : ∀ i, i < j → ¬ s = ba (regL (i : Nat))) : regN s = some j := by
  unfold regN
  rw [List.find?_range_eq_some]
  refine ⟨by simpa using h, by simpa using hj, fun i hi => by simpa using hp i hi⟩
theorem regN_none {s : ByteArray} (hp : ∀ i, i < 32 → ¬ s = ba (regL (i : Nat))) : regN s = none := by
  unfold regN
  rw [List.find?_range_eq_none]
  intro i hi
  simpa using hp i hi
set_option maxRecDepth 100000 in
set_option maxHeartbeats 1600000 in
theorem numberOf_any (s : ByteArray) (w : World) :
    Calls Tryz.prog 50 #[.string s] w fun e w' => e = .returned (regNV (regN s)) ∧ ∃ m, w' = w.drewN m := by
  have HH := Lib.hid (fun j hj h hp => regN_hit (s := s) (j := j) hj h hp)
  have HN := Lib.hid (fun hp => regN_none (s := s) hp)
  generalize regN s = R at *
  go_enter Tryz.func50, Tryz.ntmps50
  go_wp2_with fail
  go_loopw [5] (fun i wr => ∃ k : Nat, k ≤ 32 ∧ i = .int .i64 k ∧ (∀ i, i < k → ¬ s = ba (regL (i : Nat))) ∧ ∃ m, wr = w.drewN m) (fun i _ => 32 - (intOf i).toNat)
  case atStart => exact ⟨0, by omega, rfl, fun i hi => by omega, 0, rfl⟩
  case round =>
    obtain ⟨k, hk, rfl, hP, m, rfl⟩ := hrel
    have HP := Lib.hid hP
    clear hP
    by_cases hkl : k < 32
    · have hk0 : (0 : Int) ≤ k := by omega
      have hkn : (k : Int) < 32 := by omega
      have HR := Lib.hid (regasm_any (k : Int) (w.drewN m) (by omega))
      have HC := Lib.hid (fun (h : s = ba (regL (k : Nat))) => HH.out k hkl h HP.out)
      have HE := Lib.hid (fun (h : ¬ s = ba (regL (k : Nat))) => toList_ne h)
      obtain ⟨x, hx⟩ : ∃ x, x = ba (regL (k : Nat)) := ⟨_, rfl⟩
      have HX := Lib.hid hx.symm
      rw [← hx] at HR HC HE
      clear hx
      go_wp2_with fail
      refine (HR.out).mono ?_
      rintro e w' ⟨rfl, m2, rfl⟩
      by_cases hs : s = x
      · have HC2 := Lib.hid (HC.out hs)
        clear HC
        subst hs
        go_wp2_with fail
        go_ret2
        exact ⟨by rw [HC2.out]; rfl, _, rfl⟩
      · have he := HE.out hs
        have HP2 := Lib.hid (show ∀ i, i < k + 1 → ¬ s = ba (regL (i : Nat)) from fun i hi => by
          by_cases e : i = k
          · subst e; rw [HX.out]; exact hs
          · exact HP.out i (by omega))
        go_wp2_with fail
        go_roundw
        case rel => exact ⟨k + 1, by omega, by go_num, HP2.out, _, rfl⟩
        case measure => simp [intOf]; omega
    · obtain rfl : k = 32 := by omega
      have HF := Lib.hid (HN.out HP.out)
      go_wp2_with fail
      go_ret2
      exact ⟨by rw [HF.out]; rfl, m, rfl⟩
set_option linter.unusedVariables false
set_option linter.unusedSimpArgs false

theorem cat_bb {P : Program} (a b c : List UInt8) (h : c = a ++ b) (hl : a.length + b.length ≤ 1000000) (w : World) : (Op.stringOp .add (ba a) (ba b)).run P w = .ok (.string (ba c)) w := by
  rw [h]; exact cat_ba a b hl w
theorem regL_len (n : Int) (h : I64 n) : (regL n).length ≤ 66 := by
  have := intL_len n h
  unfold regL
  split
  · decide
  · split
    · simp; omega
    · simp
end Go.Proofs.YtcaifejfkpmeeaaGreat
