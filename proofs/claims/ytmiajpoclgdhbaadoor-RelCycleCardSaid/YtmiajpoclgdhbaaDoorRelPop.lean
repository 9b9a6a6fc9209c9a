/- How many bits a word has: the arithmetic of OnesCount64. -/
import Derived.Test.YtmiajpoclgdhbaaDoorRelBits
namespace Go.Proofs.YtmiajpoclgdhbaaDoor
open Go.RowKit
set_option linter.unusedVariables false

def cntR : Nat → Nat → Nat
  | 0, _ => 0
  | n + 1, x => x % 2 + cntR n (x / 2)
theorem cnt_filter : ∀ (n x : Nat), ((List.range n).filter x.testBit).length = cntR n x := by
  intro n
  induction n with
  | zero => intro x; rfl
  | succ n ih =>
    intro x
    rw [List.range_succ_eq_map, List.filter_cons, List.filter_map, cntR, ← ih (x / 2)]
    have e : (x.testBit ∘ Nat.succ) = (x / 2).testBit := by funext i; simp [Function.comp, Nat.testBit_succ]
    rw [e]
    by_cases h : x.testBit 0 = true
    · rw [if_pos h]
      have : x % 2 = 1 := by rw [Nat.testBit_zero] at h; simpa using h
      simp; omega
    · rw [if_neg h]
      have : x % 2 = 0 := by rw [Nat.testBit_zero] at h; simp at h; omega
      simp; omega
theorem bitsL_cnt (x : Nat) : (bitsL x).length = cntR 64 x := cnt_filter 64 x
theorem cntR_add : ∀ (m n x : Nat), cntR (m + n) x = cntR m x + cntR n (x / 2 ^ m) := by
  intro m
  induction m with
  | zero => intro n x; simp [cntR]
  | succ m ih =>
    intro n x
    rw [show m + 1 + n = (m + n) + 1 by omega, cntR, cntR, ih, Nat.div_div_eq_div_mul, Nat.pow_succ, Nat.mul_comm 2]
    omega
theorem cntR_mod : ∀ (m x : Nat), cntR m (x % 2 ^ m) = cntR m x := by
  intro m
  induction m with
  | zero => intro x; rfl
  | succ m ih =>
    intro x
    rw [cntR, cntR]
    have h1 : x % 2 ^ (m + 1) % 2 = x % 2 := by rw [Nat.pow_succ, Nat.mul_comm, Nat.mod_mul]; omega
    have h2 : x % 2 ^ (m + 1) / 2 = x / 2 % 2 ^ m := by rw [Nat.pow_succ, Nat.mul_comm, Nat.mod_mul_right_div_self]
    rw [h1, h2, ih]
/-- Bytes, the least first. -/
def ofB : List Nat → Nat
  | [] => 0
  | d :: l => d + 256 * ofB l
def toB : Nat → Nat → List Nat
  | 0, _ => []
  | n + 1, x => x % 256 :: toB n (x / 256)
theorem ofB_toB : ∀ (n x : Nat), x < 256 ^ n → ofB (toB n x) = x := by
  intro n
  induction n with
  | zero => intro x h; simp at h; subst h; rfl
  | succ n ih =>
    intro x h
    rw [toB, ofB, ih (x / 256) (by rw [Nat.pow_succ] at h; omega)]; omega
theorem toB_lt : ∀ (n x : Nat), ∀ d ∈ toB n x, d < 256 := by
  intro n
  induction n with
  | zero => intro x d h; cases h
  | succ n ih =>
    intro x d h
    rcases List.mem_cons.1 h with h | h
    · subst h; omega
    · exact ih _ d h
theorem cnt_bytes : ∀ (n x : Nat), cntR (8 * n) x = ((toB n x).map (cntR 8)).sum := by
  intro n
  induction n with
  | zero => intro x; rfl
  | succ n ih =>
    intro x
    rw [show 8 * (n + 1) = 8 + 8 * n by omega, cntR_add, ih, toB, List.map_cons, List.sum_cons, ← cntR_mod 8 x]
theorem and_byte (d e y z : Nat) (hd : d < 256) (he : e < 256) : (d + 256 * y) &&& (e + 256 * z) = (d &&& e) + 256 * (y &&& z) := by
  have h1 : d &&& e < 2 ^ 8 := Nat.and_lt_two_pow _ he
  apply Nat.eq_of_testBit_eq
  intro i
  have e1 : d + 256 * y = 2 ^ 8 * y + d := by omega
  have e2 : e + 256 * z = 2 ^ 8 * z + e := by omega
  have e3 : (d &&& e) + 256 * (y &&& z) = 2 ^ 8 * (y &&& z) + (d &&& e) := by omega
  rw [Nat.testBit_and, e1, e2, e3, Nat.testBit_two_pow_mul_add _ hd, Nat.testBit_two_pow_mul_add _ he, Nat.testBit_two_pow_mul_add _ h1]
  split <;> rw [Nat.testBit_and]
def F1 (x m : Nat) : Nat := (x / 2 &&& m) + (x &&& m)
def F2 (x m : Nat) : Nat := (x / 4 &&& m) + (x &&& m)
def F3 (x m : Nat) : Nat := (x / 16 + x) &&& m
theorem F1_byte : ∀ d, d < 256 → ∀ b, b < 2 → (d / 2 + 128 * b) &&& 85 = d / 2 &&& 85 := by decide +kernel
theorem F2_byte : ∀ d, d < 256 → ∀ b, b < 4 → (d / 4 + 64 * b) &&& 51 = d / 4 &&& 51 := by decide +kernel
theorem F3_byte : ∀ d, d < 69 → ∀ b, b < 5 → (d / 16 + d + 16 * b) &&& 15 = (d / 16 + d) &&& 15 := by decide +kernel
theorem F1_ofB : ∀ (l : List Nat), (∀ d ∈ l, d < 256) → F1 (ofB l) (ofB (l.map fun _ => 85)) = ofB (l.map fun d => F1 d 85) := by
  intro l
  induction l with
  | nil => intro _; rfl
  | cons d l ih =>
    intro h
    have hd := h d (by simp)
    have hr := ih fun x hx => h x (by simp [hx])
    simp only [List.map_cons, ofB]
    rw [← hr]
    unfold F1
    have e : (d + 256 * ofB l) / 2 = (d / 2 + 128 * (ofB l % 2)) + 256 * (ofB l / 2) := by omega
    rw [e, and_byte _ 85 _ _ (by omega) (by omega), and_byte d 85 _ _ hd (by omega), F1_byte d hd _ (by omega)]
    omega
theorem F2_ofB : ∀ (l : List Nat), (∀ d ∈ l, d < 256) → F2 (ofB l) (ofB (l.map fun _ => 51)) = ofB (l.map fun d => F2 d 51) := by
  intro l
  induction l with
  | nil => intro _; rfl
  | cons d l ih =>
    intro h
    have hd := h d (by simp)
    have hr := ih fun x hx => h x (by simp [hx])
    simp only [List.map_cons, ofB]
    rw [← hr]
    unfold F2
    have e : (d + 256 * ofB l) / 4 = (d / 4 + 64 * (ofB l % 4)) + 256 * (ofB l / 4) := by omega
    rw [e, and_byte _ 51 _ _ (by omega) (by omega), and_byte d 51 _ _ hd (by omega), F2_byte d hd _ (by omega)]
    omega
theorem ofB_mod16 : ∀ (l : List Nat), (∀ d ∈ l, d < 69 ∧ d % 16 < 5) → ofB l % 16 < 5 := by
  intro l h
  cases l with
  | nil => decide
  | cons d l =>
    have := h d (by simp)
    show (d + 256 * ofB l) % 16 < 5
    omega
theorem F3_ofB : ∀ (l : List Nat), (∀ d ∈ l, d < 69 ∧ d % 16 < 5) → F3 (ofB l) (ofB (l.map fun _ => 15)) = ofB (l.map fun d => F3 d 15) := by
  intro l
  induction l with
  | nil => intro _; rfl
  | cons d l ih =>
    intro h
    have hd := h d (by simp)
    have hl := fun x (hx : x ∈ l) => h x (by simp [hx])
    have hr := ih hl
    have hm := ofB_mod16 l hl
    simp only [List.map_cons, ofB]
    rw [← hr]
    unfold F3
    have e : (d + 256 * ofB l) / 16 + (d + 256 * ofB l) = (d / 16 + d + 16 * (ofB l % 16)) + 256 * (ofB l / 16 + ofB l) := by omega
    rw [e, and_byte _ 15 _ _ (by omega) (by omega), F3_byte d hd.1 _ hm]
theorem pop_byte : ∀ d, d < 256 → (F2 (F1 d 85) 51 < 69 ∧ F2 (F1 d 85) 51 % 16 < 5) ∧ F1 d 85 < 256 ∧ F3 (F2 (F1 d 85) 51) 15 = cntR 8 d ∧ cntR 8 d ≤ 8 := by decide +kernel
theorem sum_bytes (a b c d e f g h : Nat) (ha : a ≤ 8) (hb : b ≤ 8) (hc : c ≤ 8) (hd : d ≤ 8) (he : e ≤ 8) (hf : f ≤ 8) (hg : g ≤ 8) (hh : h ≤ 8) (x4 x5 x6 : Nat)
    (h4 : x4 = ofB [a, b, c, d, e, f, g, h] + ofB [a, b, c, d, e, f, g, h] / 256) (h5 : x5 = x4 + x4 / 65536) (h6 : x6 = x5 + x5 / 4294967296) :
    x4 < 18446744073709551616 ∧ x5 < 18446744073709551616 ∧ x6 < 18446744073709551616 ∧ x6 < 9223372036854775808 ∧ x6 % 128 = a + b + c + d + e + f + g + h := by
  simp only [ofB, Nat.mul_zero, Nat.add_zero] at h4
  have q : (a + 256 * (b + 256 * (c + 256 * (d + 256 * (e + 256 * (f + 256 * (g + 256 * h))))))) / 256 = b + 256 * (c + 256 * (d + 256 * (e + 256 * (f + 256 * (g + 256 * h))))) := by omega
  rw [q] at h4
  have r4 : x4 = (a + b) + 256 * ((b + c) + 256 * ((c + d) + 256 * ((d + e) + 256 * ((e + f) + 256 * ((f + g) + 256 * ((g + h) + 256 * h)))))) := by rw [h4]; clear h4 h5 h6 q; omega
  have q5 : x4 / 65536 = (c + d) + 256 * ((d + e) + 256 * ((e + f) + 256 * ((f + g) + 256 * ((g + h) + 256 * h)))) := by rw [r4]; clear h4 h5 h6 q r4; omega
  have r5 : x5 = (a + b + c + d) + 256 * ((b + c + d + e) + 256 * ((c + d + e + f) + 256 * ((d + e + f + g) + 256 * ((e + f + g + h) + 256 * ((f + g + h) + 256 * ((g + h) + 256 * h)))))) := by rw [h5, q5, r4]; clear h4 h5 h6 q r4 q5; omega
  have q6 : x5 / 4294967296 = (e + f + g + h) + 256 * ((f + g + h) + 256 * ((g + h) + 256 * h)) := by rw [r5]; clear h4 h5 h6 q r4 q5 r5; omega
  have r6 : x6 = (a + b + c + d + e + f + g + h) + 256 * ((b + c + d + e + f + g + h) + 256 * ((c + d + e + f + g + h) + 256 * ((d + e + f + g + h) + 256 * ((e + f + g + h) + 256 * ((f + g + h) + 256 * ((g + h) + 256 * h)))))) := by rw [h6, q6, r5]; clear h4 h5 h6 q r4 q5 r5 q6; omega
  clear h4 h5 h6 q q5 q6
  refine ⟨by rw [r4]; clear r4 r5 r6; omega, by rw [r5]; clear r4 r5 r6; omega, by rw [r6]; clear r4 r5 r6; omega, by rw [r6]; clear r4 r5 r6; omega, by rw [r6]; clear r4 r5 r6; omega⟩
theorem mask1 (x : Nat) : ofB ((toB 8 x).map fun _ => 85) = 6148914691236517205 := by simp only [toB, List.map_cons, List.map_nil]; decide +kernel
theorem mask2 (x : Nat) : ofB (((toB 8 x).map fun d => F1 d 85).map fun _ => 51) = 3689348814741910323 := by simp only [toB, List.map_cons, List.map_nil]; decide +kernel
theorem mask3 (x : Nat) : ofB ((((toB 8 x).map fun d => F1 d 85).map fun d => F2 d 51).map fun _ => 15) = 1085102592571150095 := by simp only [toB, List.map_cons, List.map_nil]; decide +kernel
/-- OnesCount64's steps. -/
theorem pop_all (x : Nat) (hx : x < 18446744073709551616) (x1 x2 x3 x4 x5 x6 : Nat) (h1 : x1 = F1 x 6148914691236517205) (h2 : x2 = F2 x1 3689348814741910323) (h3 : x3 = F3 x2 1085102592571150095) (h4 : x4 = x3 + x3 / 256) (h5 : x5 = x4 + x4 / 65536) (h6 : x6 = x5 + x5 / 4294967296) :
    x4 < 18446744073709551616 ∧ x5 < 18446744073709551616 ∧ x6 < 18446744073709551616 ∧ x6 < 9223372036854775808 ∧ x6 % 128 = (bitsL x).length := by
  have hb := toB_lt 8 x
  have e0 := ofB_toB 8 x (by omega)
  have e1 : x1 = ofB ((toB 8 x).map fun d => F1 d 85) := by
    rw [h1, ← F1_ofB _ hb, e0, mask1]
  have e2 : x2 = ofB (((toB 8 x).map fun d => F1 d 85).map fun d => F2 d 51) := by
    rw [h2, e1, ← F2_ofB _ (by intro d hd; obtain ⟨c, hc, rfl⟩ := List.mem_map.1 hd; exact (pop_byte c (hb c hc)).2.1), mask2]
  have e3 : x3 = ofB ((((toB 8 x).map fun d => F1 d 85).map fun d => F2 d 51).map fun d => F3 d 15) := by
    rw [h3, e2, ← F3_ofB _ (by intro d hd; obtain ⟨c, hc, rfl⟩ := List.mem_map.1 hd; obtain ⟨c2, hc2, rfl⟩ := List.mem_map.1 hc; exact (pop_byte c2 (hb c2 hc2)).1), mask3]
  have e4 : (((toB 8 x).map fun d => F1 d 85).map fun d => F2 d 51).map (fun d => F3 d 15) = (toB 8 x).map (cntR 8) := by
    rw [List.map_map, List.map_map]
    apply List.map_congr_left
    intro d hd
    exact (pop_byte d (hb d hd)).2.2.1
  rw [e4] at e3
  have hc : ∀ c ∈ (toB 8 x).map (cntR 8), c ≤ 8 := by
    intro c hc; obtain ⟨d, hd, rfl⟩ := List.mem_map.1 hc; exact (pop_byte d (hb d hd)).2.2.2
  have hs := cnt_bytes 8 x
  rw [bitsL_cnt, show (64 : Nat) = 8 * 8 from rfl, hs]
  simp only [toB, List.map_cons, List.map_nil] at e3 hc ⊢
  simp only [List.mem_cons, List.not_mem_nil, or_false, forall_eq_or_imp, forall_eq] at hc
  obtain ⟨c0, c1, c2, c3, c4, c5, c6, c7⟩ := hc
  have := sum_bytes _ _ _ _ _ _ _ _ c0 c1 c2 c3 c4 c5 c6 c7 x4 x5 x6 (by rw [h4, e3]) h5 h6
  refine ⟨this.1, this.2.1, this.2.2.1, this.2.2.2.1, ?_⟩
  rw [this.2.2.2.2, List.sum_cons, List.sum_cons, List.sum_cons, List.sum_cons, List.sum_cons, List.sum_cons, List.sum_cons, List.sum_cons, List.sum_nil]
  simp only [Nat.add_assoc, Nat.add_zero]
theorem F1_int (x : Nat) (hx : x < 18446744073709551616) : IntKind.u64.wrap (bits BinOp.and IntKind.u64 ((x : Int) / 2) 6148914691236517205 + bits BinOp.and IntKind.u64 (x : Int) 6148914691236517205) = ((F1 x 6148914691236517205 : Nat) : Int) := by
  have e : ((x : Int) / 2) = ((x / 2 : Nat) : Int) := by omega
  have h1 : x / 2 &&& 6148914691236517205 ≤ 6148914691236517205 := Nat.and_le_right
  have h2 : x &&& 6148914691236517205 ≤ 6148914691236517205 := Nat.and_le_right
  rw [e, show (6148914691236517205 : Int) = ((6148914691236517205 : Nat) : Int) from rfl, bits_and_u64_nat _ _ (by omega) (by omega), bits_and_u64_nat _ _ hx (by omega), F1]
  generalize x / 2 &&& 6148914691236517205 = a at *
  generalize x &&& 6148914691236517205 = b at *
  rw [show (a : Int) + (b : Int) = ((a + b : Nat) : Int) by omega]
  exact wrap_nat _ (by omega)
theorem F2_int (x : Nat) (hx : x < 18446744073709551616) : IntKind.u64.wrap (bits BinOp.and IntKind.u64 ((x : Int) / 4) 3689348814741910323 + bits BinOp.and IntKind.u64 (x : Int) 3689348814741910323) = ((F2 x 3689348814741910323 : Nat) : Int) := by
  have e : ((x : Int) / 4) = ((x / 4 : Nat) : Int) := by omega
  have h1 : x / 4 &&& 3689348814741910323 ≤ 3689348814741910323 := Nat.and_le_right
  have h2 : x &&& 3689348814741910323 ≤ 3689348814741910323 := Nat.and_le_right
  rw [e, show (3689348814741910323 : Int) = ((3689348814741910323 : Nat) : Int) from rfl, bits_and_u64_nat _ _ (by omega) (by omega), bits_and_u64_nat _ _ hx (by omega), F2]
  generalize x / 4 &&& 3689348814741910323 = a at *
  generalize x &&& 3689348814741910323 = b at *
  rw [show (a : Int) + (b : Int) = ((a + b : Nat) : Int) by omega]
  exact wrap_nat _ (by omega)
theorem F1_le (x : Nat) : F1 x 6148914691236517205 ≤ 12297829382473034410 := by
  have h1 : x / 2 &&& 6148914691236517205 ≤ 6148914691236517205 := Nat.and_le_right
  have h2 : x &&& 6148914691236517205 ≤ 6148914691236517205 := Nat.and_le_right
  unfold F1; omega
theorem F2_le (x : Nat) : F2 x 3689348814741910323 ≤ 7378697629483820646 := by
  have h1 : x / 4 &&& 3689348814741910323 ≤ 3689348814741910323 := Nat.and_le_right
  have h2 : x &&& 3689348814741910323 ≤ 3689348814741910323 := Nat.and_le_right
  unfold F2; omega
theorem F3_int (x : Nat) (hx : x ≤ 7378697629483820646) : bits BinOp.and IntKind.u64 (IntKind.u64.wrap ((x : Int) / 16 + (x : Int))) 1085102592571150095 = ((F3 x 1085102592571150095 : Nat) : Int) := by
  rw [show ((x : Int) / 16 + (x : Int)) = ((x / 16 + x : Nat) : Int) by omega, wrap_nat _ (by omega), show (1085102592571150095 : Int) = ((1085102592571150095 : Nat) : Int) from rfl, bits_and_u64_nat _ _ (by omega) (by omega), F3]
theorem add_int (x c : Nat) (h : x + x / c < 18446744073709551616) : IntKind.u64.wrap ((x : Int) + (x : Int) / (c : Int)) = ((x + x / c : Nat) : Int) := by
  rw [show ((x : Int) + (x : Int) / (c : Int)) = ((x + x / c : Nat) : Int) by simp]; exact wrap_nat _ h
theorem pop_core (x x1 x2 x3 x4 x5 x6 k : Nat) (w : World)
    (k1 : IntKind.u64.wrap (bits BinOp.and IntKind.u64 ((x : Int) / 2) 6148914691236517205 + bits BinOp.and IntKind.u64 (x : Int) 6148914691236517205) = (x1 : Int))
    (k2 : IntKind.u64.wrap (bits BinOp.and IntKind.u64 ((x1 : Int) / 4) 3689348814741910323 + bits BinOp.and IntKind.u64 (x1 : Int) 3689348814741910323) = (x2 : Int))
    (k3 : bits BinOp.and IntKind.u64 (IntKind.u64.wrap ((x2 : Int) / 16 + (x2 : Int))) 1085102592571150095 = (x3 : Int))
    (k4 : IntKind.u64.wrap ((x3 : Int) + (x3 : Int) / 256) = (x4 : Int)) (k5 : IntKind.u64.wrap ((x4 : Int) + (x4 : Int) / 65536) = (x5 : Int)) (k6 : IntKind.u64.wrap ((x5 : Int) + (x5 : Int) / 4294967296) = (x6 : Int))
    (k7 : bits BinOp.and IntKind.i64 (wrap64 (x6 : Int)) 127 = (k : Int)) :
    Calls Tryd.prog 54 #[.int .u64 x] w fun e w' => e = .returned (.int .i64 k) ∧ w = w' := by
  go_enter Tryd.func54, Tryd.ntmps54
  go_wp2_with fail
  go_ret
  exact ⟨rfl, rfl⟩
theorem and_i64_127 (x : Nat) (hx : x < 9223372036854775808) : bits BinOp.and IntKind.i64 (wrap64 (x : Int)) 127 = ((x % 128 : Nat) : Int) := by
  have hw : wrap64 (x : Int) = (x : Int) := IntWalk.wrap64_in _ (by omega)
  rw [hw]
  have h1 : (BitVec.ofInt 64 (x : Int)).toNat = x := by
    rw [BitVec.ofInt_natCast, BitVec.toNat_ofNat]; exact Nat.mod_eq_of_lt (by omega)
  have h2 : (BitVec.ofInt 64 (127 : Int)).toNat = 127 := by decide
  show IntKind.i64.wrap ((BitVec.ofInt 64 (x : Int) &&& BitVec.ofInt 64 (127 : Int)).toNat : Int) = _
  rw [BitVec.toNat_and, h1, h2, show (127 : Nat) = 2 ^ 7 - 1 from rfl, Nat.and_two_pow_sub_one_eq_mod]
  exact IntWalk.i64_in _ (by omega)
theorem ones_any (x : Nat) (w : World) (hx : x < 18446744073709551616) :
    Calls Tryd.prog 54 #[.int .u64 x] w fun e w' => e = .returned (.int .i64 ((bitsL x).length : Nat)) ∧ w = w' := by
  obtain ⟨h4, h5, h6, h7, h8⟩ := pop_all x hx _ _ _ _ _ _ rfl rfl rfl rfl rfl rfl
  rw [← h8]
  have b1 := F1_le x
  have b2 := F2_le (F1 x 6148914691236517205)
  exact pop_core x _ _ _ _ _ _ _ w (F1_int x hx) (F2_int _ (by omega)) (F3_int _ b2) (add_int _ 256 h4) (add_int _ 65536 h5) (add_int _ 4294967296 h6) (and_i64_127 _ h7)
end Go.Proofs.YtmiajpoclgdhbaaDoor
