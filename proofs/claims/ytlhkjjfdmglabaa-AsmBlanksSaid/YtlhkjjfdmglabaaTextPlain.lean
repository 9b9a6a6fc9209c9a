/- What texts words have: plain lists of bytes. -/
import Derived.Test.YtlhkjjfdmglabaaParsePlain
namespace Go.Proofs.Ytlhkjjfdmglabaa
open Go.RowKit

def ba (l : List UInt8) : ByteArray := ⟨l.toArray⟩
theorem ba_toList (l : List UInt8) : (ba l).toList = l := by rw [toList_ba]; rfl
theorem ba_data (l : List UInt8) : (ba l).data.toList = l := rfl
theorem ba_of {s : ByteArray} {l : List UInt8} (h : s.data.toList = l) : s = ba l := by
  subst h; rfl
theorem ba_append (a b : List UInt8) : ba a ++ ba b = ba (a ++ b) := by
  apply ba_of; simp [ba]
theorem ba_size (l : List UInt8) : (ba l).size = l.length := by
  rw [← size_list, ba_data]

def dg (d : Nat) : UInt8 := UInt8.ofNat (if d < 10 then 48 + d else 87 + d)
def allDigits : ByteArray := ⟨#[48, 49, 50, 51, 52, 53, 54, 55, 56, 57, 97, 98, 99, 100, 101, 102]⟩
theorem dg_slice (d : Nat) (h : d < 16) : (ByteArray.mk #[48, 49, 50, 51, 52, 53, 54, 55, 56, 57, 97, 98, 99, 100, 101, 102]).extract d (d + 1) = ba [dg d] := by
  have key : ∀ d : Fin 16, ((ByteArray.mk #[48, 49, 50, 51, 52, 53, 54, 55, 56, 57, 97, 98, 99, 100, 101, 102]).extract d.val (d.val + 1)).data.toList = [dg d.val] := by decide
  exact ba_of (key ⟨d, h⟩)
theorem digN_dg (d : Nat) (h : d < 16) : digN (dg d).toNat = d := by
  have key : ∀ d : Fin 16, digN (dg d.val).toNat = d.val := by decide
  exact key ⟨d, h⟩
theorem dg_ten (d : Nat) (h : d < 10) : dg d ≠ 120 := by
  match d, h with
  | 0, _ => decide | 1, _ => decide | 2, _ => decide | 3, _ => decide | 4, _ => decide | 5, _ => decide | 6, _ => decide | 7, _ => decide
  | 8, _ => decide | 9, _ => decide

/-- A word's digits, the highest first. -/
def txt (b w : Nat) : List UInt8 := if _h : w < b ∨ b < 2 then [dg (w % b)] else txt b (w / b) ++ [dg (w % b)]
  termination_by w
  decreasing_by exact Nat.div_lt_self (by omega) (by omega)

theorem txt_small (b w : Nat) (h : w < b) : txt b w = [dg w] := by
  rw [txt, dif_pos (.inl h), Nat.mod_eq_of_lt h]
theorem txt_step (b w : Nat) (hb : 2 ≤ b) (h : b ≤ w) : txt b w = txt b (w / b) ++ [dg (w % b)] := by
  rw [txt, dif_neg (by omega)]

theorem txt_digits (b : Nat) (hb : 2 ≤ b) (hb16 : b ≤ 16) : ∀ (n w : Nat), w < n → (∀ c ∈ txt b w, ∃ d, d < b ∧ c = dg d) ∧ foldB b (txt b w) = w ∧ txt b w ≠ [] := by
  intro n
  induction n with
  | zero => intro w h; omega
  | succ n ih =>
    intro w hw
    by_cases h : w < b
    · rw [txt_small b w h]
      refine ⟨fun c hc => ⟨w, h, by simpa using hc⟩, ?_, by simp⟩
      show 0 * b + digN (dg w).toNat = w
      rw [digN_dg w (by omega)]; omega
    · have h1 : w / b < w := Nat.div_lt_self (by omega) (by omega)
      obtain ⟨i1, i2, _⟩ := ih (w / b) (by omega)
      have hm : w % b < b := Nat.mod_lt _ (by omega)
      rw [txt_step b w hb (by omega)]
      refine ⟨?_, ?_, by simp⟩
      · intro c hc
        rw [List.mem_append] at hc
        rcases hc with hc | hc
        · exact i1 c hc
        · exact ⟨w % b, hm, by simpa using hc⟩
      · rw [foldB_snoc, i2, digN_dg _ (by omega)]
        have := Nat.div_add_mod w b
        rw [Nat.mul_comm] at this; omega

theorem txt_parse (b w : Nat) (hb : 2 ≤ b) (hb16 : b ≤ 16) (hw : w < 18446744073709551616) : parseT b (txt b w) = (w, 0) := by
  obtain ⟨h1, h2, h3⟩ := txt_digits b hb hb16 (w + 1) w (by omega)
  unfold parseT
  rw [if_neg h3, if_pos, h2, if_pos hw]
  rw [List.all_eq_true]
  intro c hc
  obtain ⟨d, hd, rfl⟩ := h1 c hc
  rw [digN_dg d (by omega)]; simpa using hd

theorem hex_parse (w : Nat) (hw : w < 18446744073709551616) : parseL ([48, 120] ++ txt 16 w) = (w, 0) := by
  obtain ⟨_, _, h3⟩ := txt_digits 16 (by decide) (by decide) (w + 1) w (by omega)
  have hh : hexed ([48, 120] ++ txt 16 w) = true := by
    unfold hexed
    rw [decide_eq_true_eq]
    refine ⟨?_, rfl, rfl⟩
    have : 0 < (txt 16 w).length := List.length_pos_iff.2 h3
    simp; omega
  unfold parseL
  rw [if_pos hh]
  exact txt_parse 16 w (by decide) (by decide) hw

theorem dec_parse (w : Nat) (hw : w < 18446744073709551616) : parseL (txt 10 w) = (w, 0) := by
  obtain ⟨h1, _, _⟩ := txt_digits 10 (by decide) (by decide) (w + 1) w (by omega)
  have hh : hexed (txt 10 w) = false := by
    unfold hexed
    rw [decide_eq_false_iff_not]
    rintro ⟨_, _, h⟩
    obtain ⟨d, hd, e⟩ := h1 120 (List.mem_of_getElem? h)
    exact dg_ten d hd e.symm
  unfold parseL
  rw [hh]
  exact txt_parse 10 w (by decide) (by decide) hw

theorem txt_len (b : Nat) (hb : 2 ≤ b) : ∀ (k w : Nat), w < b ^ (k + 1) → (txt b w).length ≤ k + 1 := by
  intro k
  induction k with
  | zero =>
    intro w h
    rw [txt_small b w (by simpa using h)]; simp
  | succ k ih =>
    intro w h
    by_cases hw : w < b
    · rw [txt_small b w hw]; simp
    · rw [txt_step b w hb (by omega), List.length_append]
      have := ih (w / b) (by
        rw [Nat.pow_succ] at h
        exact Nat.div_lt_of_lt_mul (by rw [Nat.mul_comm]; exact h))
      simp; omega
theorem txt_len64 (b w : Nat) (hb : 2 ≤ b) (hw : w < 18446744073709551616) : (txt b w).length ≤ 64 := by
  refine txt_len b hb 63 w (Nat.lt_of_lt_of_le hw ?_)
  have : (2 : Nat) ^ 64 ≤ b ^ 64 := Nat.pow_le_pow_left hb 64
  have e : (2 : Nat) ^ 64 = 18446744073709551616 := by decide
  omega


theorem cat_ba {P : Program} (a b : List UInt8) (h : a.length + b.length ≤ 1000000) (w : World) : (Op.stringOp .add (ba a) (ba b)).run P w = .ok (.string (ba (a ++ b))) w := by
  rw [run_string_add_sum w _ _ (by rw [ba_size, ba_size]; omega), ba_append]


/-- The digits come lowest first: 'acc' those that are done, 'y' what is left. -/
def HexInv (n y : Nat) (acc : List UInt8) : Prop := txt 16 n = txt 16 y ++ acc.reverse
theorem HexInv.start (n : Nat) : HexInv n n [] := by simp [HexInv]
theorem HexInv.next {n y : Nat} {acc : List UInt8} (h : HexInv n y acc) (hy : 16 ≤ y) : HexInv n (y / 16) (acc ++ [dg (y % 16)]) := by
  unfold HexInv at *
  rw [h, txt_step 16 y (by decide) hy]; simp
theorem HexInv.last {n y : Nat} {acc : List UInt8} (h : HexInv n y acc) (hy : y < 16) : txt 16 n = (acc ++ [dg (y % 16)]).reverse := by
  unfold HexInv at h
  rw [h, txt_small 16 y hy, Nat.mod_eq_of_lt hy]; simp
theorem HexInv.len {n y : Nat} {acc : List UInt8} (h : HexInv n y acc) (hn : n < 18446744073709551616) : acc.length < 64 := by
  unfold HexInv at h
  have h1 := txt_len64 16 n (by decide) hn
  obtain ⟨_, _, h3⟩ := txt_digits 16 (by decide) (by decide) (y + 1) y (by omega)
  have h4 : 0 < (txt 16 y).length := List.length_pos_iff.2 h3
  rw [h, List.length_append, List.length_reverse] at h1
  omega
theorem drop_rev (acc : List UInt8) (k : Nat) (h : k < acc.length) : (acc.drop k).reverse = (acc.drop (k + 1)).reverse ++ [acc[k]] := by
  rw [List.drop_eq_getElem_cons h, List.reverse_cons]


theorem dg_at (d : Nat) (h : d < (ByteArray.mk #[48, 49, 50, 51, 52, 53, 54, 55, 56, 57, 97, 98, 99, 100, 101, 102]).size) : (ByteArray.mk #[48, 49, 50, 51, 52, 53, 54, 55, 56, 57, 97, 98, 99, 100, 101, 102])[d] = dg d := by
  have key : ∀ d : Fin 16, (ByteArray.mk #[48, 49, 50, 51, 52, 53, 54, 55, 56, 57, 97, 98, 99, 100, 101, 102])[d.val]'d.isLt = dg d.val := by decide
  exact key ⟨d, h⟩

end Go.Proofs.Ytlhkjjfdmglabaa
