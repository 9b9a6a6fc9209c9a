/- Words as lists of bits: plain arithmetic. -/
import Derived.Test.YtdkjokffeeiilaaFieldPlain
namespace Go.Proofs.Ytdkjokffeeiilaa
open Go.RowKit

def wordN (l : List Nat) : Nat := l.foldr (fun b acc => acc * 2 + b) 0
def bitsTo (x k : Nat) : List Nat := (List.range k).map (fun i => x / 2 ^ i % 2)
def bitsN (x : Nat) : List Nat := bitsTo x 64
def ints (l : List Nat) : List Value := l.map (fun b : Nat => Value.int .i64 (b : Int))

theorem bitsTo_succ (x k : Nat) : bitsTo x (k + 1) = bitsTo x k ++ [x / 2 ^ k % 2] := by
  unfold bitsTo; rw [List.range_succ, List.map_append]; rfl
theorem ints_snoc (l : List Nat) (b : Nat) : ints (l ++ [b]) = ints l ++ [Value.int .i64 b] := by simp [ints]
theorem bitsTo_length (x k : Nat) : (bitsTo x k).length = k := by simp [bitsTo]
theorem bits_le (x k : Nat) : ∀ b ∈ bitsTo x k, b ≤ 1 := by
  intro b hb
  simp only [bitsTo, List.mem_map] at hb
  obtain ⟨i, _, rfl⟩ := hb
  omega
theorem wordN_lt (l : List Nat) (h : ∀ b ∈ l, b ≤ 1) : wordN l < 2 ^ l.length := by
  induction l with
  | nil => decide
  | cons b l ih =>
    have h1 := ih (fun x hx => h x (List.mem_cons_of_mem _ hx))
    have h2 := h b List.mem_cons_self
    show wordN l * 2 + b < 2 ^ (l.length + 1)
    rw [Nat.pow_succ]; omega
theorem wordN_drop (l : List Nat) (k : Nat) (h : k < l.length) : wordN (l.drop k) = wordN (l.drop (k + 1)) * 2 + l.getD k 0 := by
  rw [List.drop_eq_getElem_cons h]
  have : l.getD k 0 = l[k] := by simp [List.getD, List.getElem?_eq_getElem h]
  rw [this]; rfl

theorem wordN_testBit (l : List Nat) (h : ∀ b ∈ l, b ≤ 1) : ∀ i, (wordN l).testBit i = decide (l.getD i 0 = 1) := by
  induction l with
  | nil => intro i; simp [wordN]
  | cons b l ih =>
    intro i
    have h1 := ih (fun x hx => h x (List.mem_cons_of_mem _ hx))
    have h2 := h b List.mem_cons_self
    show (wordN l * 2 + b).testBit i = _
    cases i with
    | zero =>
      rw [Nat.testBit_zero]
      have : (wordN l * 2 + b) % 2 = b := by omega
      rw [this]; simp
    | succ i =>
      rw [Nat.testBit_succ]
      have : (wordN l * 2 + b) / 2 = wordN l := by omega
      rw [this, h1]; simp
theorem bitsN_getD (x i : Nat) (hx : x < 18446744073709551616) : ((bitsN x).getD i 0 = 1) ↔ x.testBit i = true := by
  unfold bitsN bitsTo
  by_cases hi : i < 64
  · rw [List.getD, List.getElem?_map, List.getElem?_range hi]
    simp only [Option.map_some, Option.getD_some, Nat.testBit_eq_decide_div_mod_eq, decide_eq_true_eq]
  · have h0 : x.testBit i = false := Nat.testBit_lt_two_pow (Nat.lt_of_lt_of_le (by omega : x < 2 ^ 64) (Nat.pow_le_pow_right (by decide) (by omega)))
    rw [h0]
    simp [List.getD, hi]

/-- The bits from lo up to hi make the part. -/
theorem wordN_part (x : Nat) (lo n : Nat) (hx : x < 18446744073709551616) : wordN (((bitsN x).drop lo).take n) = x / 2 ^ lo % 2 ^ n := by
  have hb : ∀ b ∈ ((bitsN x).drop lo).take n, b ≤ 1 := fun b h => bits_le x 64 b (List.mem_of_mem_drop (List.mem_of_mem_take h))
  apply Nat.eq_of_testBit_eq
  intro i
  rw [wordN_testBit _ hb, Nat.testBit_mod_two_pow, Nat.testBit_div_two_pow]
  have hg := bitsN_getD x (i + lo) hx
  by_cases hi : i < n
  · have e : (((bitsN x).drop lo).take n).getD i 0 = (bitsN x).getD (i + lo) 0 := by
      simp [List.getD, hi, Nat.add_comm]
    rw [e, Bool.eq_iff_iff]
    simp only [decide_eq_true_eq, Bool.and_eq_true, hi, true_and]
    exact hg
  · have e : (((bitsN x).drop lo).take n).getD i 0 = 0 := by
      simp [List.getD, List.getElem?_take, hi]
    rw [e]; simp [hi]

/-- After so many rounds of the document's Put. -/
def putTo (x v : Nat) (lo k : Nat) : List Nat := (List.range 64).map (fun i => if lo ≤ i ∧ i < lo + k then v / 2 ^ (i - lo) % 2 else x / 2 ^ i % 2)
theorem putTo_zero (x v lo : Nat) : putTo x v lo 0 = bitsN x := by
  unfold putTo bitsN bitsTo
  apply List.map_congr_left
  intro i _
  rw [if_neg (by omega)]
theorem putTo_succ (x v lo k : Nat) (h : lo + k < 64) : (putTo x v lo k).set (lo + k) (v / 2 ^ k % 2) = putTo x v lo (k + 1) := by
  apply List.ext_getElem?
  intro i
  unfold putTo
  rw [List.getElem?_set, List.getElem?_map, List.getElem?_map]
  by_cases hi : lo + k = i
  · subst hi
    rw [if_pos rfl, if_pos (by simp; omega), List.getElem?_range (by omega)]
    simp
  · rw [if_neg hi]
    by_cases h64 : i < 64
    · rw [List.getElem?_range h64]
      simp only [Option.map_some]
      congr 1
      by_cases hc : lo ≤ i ∧ i < lo + k
      · rw [if_pos hc, if_pos (by omega)]
      · rw [if_neg hc, if_neg (by omega)]
    · simp [h64]
theorem putTo_length (x v lo k : Nat) : (putTo x v lo k).length = 64 := by simp [putTo]
theorem putTo_le (x v lo k : Nat) : ∀ b ∈ putTo x v lo k, b ≤ 1 := by
  intro b hb
  simp only [putTo, List.mem_map] at hb
  obtain ⟨i, _, rfl⟩ := hb
  split <;> omega
theorem wordN_put (x hi lo v : Int) (hx : 0 ≤ x ∧ x < 18446744073709551616) (hm : mayB hi lo = true) :
    wordN (putTo x.toNat v.toNat lo.toNat (hi - lo + 1).toNat) = putN x hi lo v := by
  have hm' := hm
  simp only [mayB, decide_eq_true_eq] at hm'
  obtain ⟨h0, h1, h2⟩ := hm'
  apply Nat.eq_of_testBit_eq
  intro i
  rw [wordN_testBit _ (putTo_le _ _ _ _)]
  unfold putN
  rw [if_pos hm, Nat.testBit_or, Nat.testBit_and, Nat.testBit_xor, Nat.testBit_two_pow_sub_one, Nat.testBit_mul_two_pow, Nat.testBit_mul_two_pow, Nat.testBit_two_pow_sub_one, Nat.testBit_mod_two_pow]
  by_cases h64 : i < 64
  · have e : (putTo x.toNat v.toNat lo.toNat (hi - lo + 1).toNat).getD i 0 = if lo.toNat ≤ i ∧ i < lo.toNat + (hi - lo + 1).toNat then v.toNat / 2 ^ (i - lo.toNat) % 2 else x.toNat / 2 ^ i % 2 := by
      unfold putTo
      rw [List.getD, List.getElem?_map, List.getElem?_range h64]; rfl
    rw [e]
    by_cases hc : lo.toNat ≤ i ∧ i < lo.toNat + (hi - lo + 1).toNat
    · rw [if_pos hc, Nat.testBit_eq_decide_div_mod_eq (x := v.toNat)]
      have : i - lo.toNat < (hi - lo + 1).toNat := by omega
      simp [h64, hc.1, this]
    · rw [if_neg hc, Nat.testBit_eq_decide_div_mod_eq (x := x.toNat)]
      by_cases h3 : lo.toNat ≤ i
      · have : ¬ i - lo.toNat < (hi - lo + 1).toNat := by omega
        simp [h64, this]
      · simp [h64, h3]
  · have hx0 : x.toNat.testBit i = false := Nat.testBit_lt_two_pow (Nat.lt_of_lt_of_le (by omega : x.toNat < 2 ^ 64) (Nat.pow_le_pow_right (by decide) (by omega)))
    have h3 : ¬ i - lo.toNat < (hi - lo + 1).toNat := by omega
    rw [hx0]
    simp [h3, List.getD, putTo, h64]

/-- After so many rounds of the document's Down. -/
def downTo (x k : Nat) : List Nat := (List.range 64).map (fun i => if i < k then 0 else x / 2 ^ i % 2)
theorem downTo_zero (x : Nat) : downTo x 0 = bitsN x := by
  unfold downTo bitsN bitsTo
  apply List.map_congr_left
  intro i _
  rw [if_neg (by omega)]
theorem downTo_succ (x k : Nat) (h : k < 64) : (downTo x k).set k 0 = downTo x (k + 1) := by
  apply List.ext_getElem?
  intro i
  unfold downTo
  rw [List.getElem?_set, List.getElem?_map, List.getElem?_map]
  by_cases hi : k = i
  · subst hi
    rw [if_pos rfl, if_pos (by simp; omega), List.getElem?_range (by omega)]
    simp
  · rw [if_neg hi]
    by_cases h64 : i < 64
    · rw [List.getElem?_range h64]
      simp only [Option.map_some]
      congr 1
      by_cases hc : i < k
      · rw [if_pos hc, if_pos (by omega)]
      · rw [if_neg hc, if_neg (by omega)]
    · simp [h64]
theorem downTo_length (x k : Nat) : (downTo x k).length = 64 := by simp [downTo]
theorem downTo_le (x k : Nat) : ∀ b ∈ downTo x k, b ≤ 1 := by
  intro b hb
  simp only [downTo, List.mem_map] at hb
  obtain ⟨i, _, rfl⟩ := hb
  split <;> omega
theorem wordN_down (x n : Int) (k : Nat) (hx : 0 ≤ x ∧ x < 18446744073709551616) (hk : k = min n.toNat 64) : wordN (downTo x.toNat k) = downN x n := by
  apply Nat.eq_of_testBit_eq
  intro i
  rw [wordN_testBit _ (downTo_le _ _)]
  unfold downN
  rw [Nat.testBit_mul_two_pow, Nat.testBit_div_two_pow]
  by_cases h64 : i < 64
  · have e : (downTo x.toNat k).getD i 0 = if i < k then 0 else x.toNat / 2 ^ i % 2 := by
      unfold downTo
      rw [List.getD, List.getElem?_map, List.getElem?_range h64]; rfl
    rw [e]
    by_cases hc : i < k
    · rw [if_pos hc]
      have : ¬ n.toNat ≤ i := by omega
      simp [this]
    · rw [if_neg hc]
      have h3 : n.toNat ≤ i := by omega
      rw [show i - n.toNat + n.toNat = i by omega, Nat.testBit_eq_decide_div_mod_eq]
      simp [h3]
  · have hx0 : x.toNat.testBit i = false := Nat.testBit_lt_two_pow (Nat.lt_of_lt_of_le (by omega : x.toNat < 2 ^ 64) (Nat.pow_le_pow_right (by decide) (by omega)))
    have e : (downTo x.toNat k).getD i 0 = 0 := by simp [List.getD, downTo, h64]
    rw [e]
    by_cases h3 : n.toNat ≤ i
    · rw [show i - n.toNat + n.toNat = i by omega, hx0]; simp
    · simp [h3]


theorem ints_set (l : List Nat) (j b : Nat) : (ints l).set j (.int .i64 (b : Int)) = ints (l.set j b) := by
  unfold ints; rw [List.map_set]
theorem bitsN_at (x k : Nat) (h : k < 64) : (ints (bitsN x))[k]? = some (.int .i64 (x / 2 ^ k % 2 : Nat)) := by
  simp [ints, bitsN, bitsTo, h]
theorem putTo_at (x v lo k j : Nat) (h : j < 64) : ∃ b : Nat, (ints (putTo x v lo k))[j]? = some (.int .i64 b) :=
  ⟨_, by simp [ints, putTo, h]; rfl⟩
theorem downTo_at (x k j : Nat) (h : j < 64) : ∃ b : Nat, (ints (downTo x k))[j]? = some (.int .i64 b) :=
  ⟨_, by simp [ints, downTo, h]; rfl⟩


theorem signed_ref (x n : Int) (m : Nat) (hn : n = m + 1) (hm : m ≤ 62) :
    signedZ x n = if x.toNat / 2 ^ m % 2 = 1 then ((x.toNat % 2 ^ m : Nat) : Int) - ((2 ^ m : Nat) : Int) else ((x.toNat % 2 ^ m : Nat) : Int) := by
  unfold signedZ
  rw [if_pos (by omega)]
  have e : n.toNat = m + 1 := by omega
  rw [e, Nat.add_sub_cancel]
  have h1 : x.toNat % 2 ^ (m + 1) = x.toNat / 2 ^ m % 2 * 2 ^ m + x.toNat % 2 ^ m := by
    rw [Nat.pow_succ, Nat.mod_mul, Nat.mul_comm (2 ^ m), Nat.add_comm]
  have h2 : x.toNat % 2 ^ m < 2 ^ m := Nat.mod_lt _ (Nat.pow_pos (by decide))
  have h3 : x.toNat / 2 ^ m % 2 < 2 := Nat.mod_lt _ (by decide)
  rw [h1, Nat.pow_succ]
  generalize x.toNat / 2 ^ m % 2 = b at *
  generalize x.toNat % 2 ^ m = r at *
  generalize 2 ^ m = M at *
  match b, h3 with
  | 0, _ => rw [if_neg (by omega), if_neg (by omega)]; simp
  | 1, _ => rw [if_pos (by omega), if_pos (by omega)]; omega


theorem sg_neg (r m d : Nat) (h : r < 2 ^ m) (hm : m ≤ 62) (hd : ((d : Int) == 1) = true) :
    wrap64 (wrap64 (r : Int) - wrap64 ((2 : Int) ^ m)) = if d = 1 then (r : Int) - ((2 ^ m : Nat) : Int) else (r : Int) := by
  have hM := le_pow63 m (by omega)
  rw [if_pos (by rw [beq_iff_eq] at hd; omega), two_pow_cast]
  generalize 2 ^ m = M at *
  unfold wrap64; omega
theorem sg_pos (r m d : Nat) (h : r < 2 ^ m) (hm : m ≤ 62) (hd : ((d : Int) == 1) = false) :
    wrap64 (r : Int) = if d = 1 then (r : Int) - ((2 ^ m : Nat) : Int) else (r : Int) := by
  have hM := le_pow63 m (by omega)
  rw [if_neg (by rw [beq_eq_false_iff_ne] at hd; omega)]
  generalize 2 ^ m = M at *
  unfold wrap64; omega

end Go.Proofs.Ytdkjokffeeiilaa
