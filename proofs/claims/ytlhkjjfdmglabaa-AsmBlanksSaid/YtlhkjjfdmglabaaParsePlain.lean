/- What texts of words mean: plain lists of bytes, no program in sight. -/
import Derived.WalkKit
namespace Go.Proofs.Ytlhkjjfdmglabaa
open Go.RowKit

def digN (c : Nat) : Nat :=
  if 48 ≤ c ∧ c ≤ 57 then c - 48 else if 97 ≤ c ∧ c ≤ 102 then c - 97 + 10 else if 65 ≤ c ∧ c ≤ 70 then c - 65 + 10 else 99
def foldB (base : Nat) (l : List UInt8) : Nat := l.foldl (fun n c => n * base + digN c.toNat) 0
def parseT (base : Nat) (t : List UInt8) : Nat × Nat :=
  if t = [] then (0, 20) else if t.all (fun c => digN c.toNat < base) then (if foldB base t < 18446744073709551616 then (foldB base t, 0) else (0, 21)) else (0, 20)
def hexed (l : List UInt8) : Bool := decide (2 < l.length ∧ l[0]? = some 48 ∧ l[1]? = some 120)
def parseL (l : List UInt8) : Nat × Nat := if hexed l then parseT 16 (l.drop 2) else parseT 10 l

theorem size_list (s : ByteArray) : s.data.toList.length = s.size := by simp
theorem list_ne (s : ByteArray) (h : 0 < s.size) : s.data.toList ≠ [] := by intro e; have h1 := size_list s; rw [e] at h1; simp at h1; omega
theorem digN_le (c : Nat) : digN c ≤ 99 := by unfold digN; split <;> (try split) <;> (try split) <;> omega

theorem take_snoc (s : ByteArray) (k : Nat) (h : k < s.size) : s.data.toList.take (k + 1) = s.data.toList.take k ++ [s[k]] := by
  rw [List.take_succ_eq_append_getElem (by simpa using h)]; rfl
theorem foldB_snoc (b : Nat) (l : List UInt8) (c : UInt8) : foldB b (l ++ [c]) = foldB b l * b + digN c.toNat := by
  unfold foldB; rw [List.foldl_append]; rfl
theorem foldB_take (b : Nat) (s : ByteArray) (k : Nat) (h : k < s.size) : foldB b (s.data.toList.take (k + 1)) = foldB b (s.data.toList.take k) * b + digN s[k].toNat := by
  rw [take_snoc s k h, foldB_snoc]

theorem foldl_ge (b : Nat) (hb : 1 ≤ b) (l : List UInt8) : ∀ n : Nat, n ≤ l.foldl (fun n c => n * b + digN c.toNat) n := by
  induction l with
  | nil => intro n; exact Nat.le_refl _
  | cons c l ih => intro n; exact Nat.le_trans (show n ≤ n * b + digN c.toNat by have := Nat.mul_le_mul_left n hb; omega) (ih _)
theorem foldB_mono (b : Nat) (hb : 1 ≤ b) (l : List UInt8) (k : Nat) : foldB b (l.take k) ≤ foldB b l := by
  have e : foldB b l = (l.drop k).foldl (fun n c => n * b + digN c.toNat) (foldB b (l.take k)) := by
    unfold foldB; rw [← List.foldl_append, List.take_append_drop]
  rw [e]; exact foldl_ge b hb _ _

def goodTo (b : Nat) (l : List UInt8) (k : Nat) : Bool := (l.take k).all (fun c => digN c.toNat < b)
theorem goodTo_zero (b : Nat) (l : List UInt8) : goodTo b l 0 = true := by simp [goodTo]
theorem goodTo_next (b : Nat) (s : ByteArray) (k : Nat) (h : k < s.size) (hg : goodTo b s.data.toList k = true) (hd : digN s[k].toNat < b) : goodTo b s.data.toList (k + 1) = true := by
  unfold goodTo at *; rw [take_snoc s k h, List.all_append, hg]; simp [hd]
theorem goodTo_all (b : Nat) (s : ByteArray) (hg : goodTo b s.data.toList s.size = true) : s.data.toList.all (fun c => digN c.toNat < b) = true := by
  unfold goodTo at hg; rwa [List.take_of_length_le (by simp)] at hg
theorem good_at (b : Nat) (s : ByteArray) (k : Nat) (h : k < s.size) (hg : s.data.toList.all (fun c => digN c.toNat < b) = true) : digN s[k].toNat < b := by
  rw [List.all_eq_true] at hg
  have := hg s[k] (by rw [show s[k] = s.data.toList[k]'(by simpa using h) from rfl]; exact List.getElem_mem _)
  simpa using this
theorem bad_any (b : Nat) (s : ByteArray) (k : Nat) (h : k < s.size) (hd : ¬ digN s[k].toNat < b) : parseT b s.data.toList = (0, 20) := by
  unfold parseT
  have hne : s.data.toList ≠ [] := list_ne s (by omega)
  rw [if_neg hne, if_neg]
  intro hall; exact hd (good_at b s k h hall)
theorem parse_big (b : Nat) (hb : 1 ≤ b) (s : ByteArray) (k : Nat) (hk : k < s.size) (hg : s.data.toList.all (fun c => digN c.toNat < b) = true)
    (h : 18446744073709551616 ≤ foldB b (s.data.toList.take (k + 1))) : parseT b s.data.toList = (0, 21) := by
  unfold parseT
  have hne : s.data.toList ≠ [] := list_ne s (by omega)
  have := foldB_mono b hb s.data.toList (k + 1)
  rw [if_neg hne, if_pos hg, if_neg (by omega)]
theorem parse_ok (b : Nat) (s : ByteArray) (hs : 0 < s.size) (hg : s.data.toList.all (fun c => digN c.toNat < b) = true)
    (h : foldB b (s.data.toList.take s.size) < 18446744073709551616) : parseT b s.data.toList = (foldB b (s.data.toList.take s.size), 0) := by
  unfold parseT
  have hne : s.data.toList ≠ [] := list_ne s (by omega)
  have e : s.data.toList.take s.size = s.data.toList := List.take_of_length_le (by simp)
  rw [e] at h ⊢
  rw [if_neg hne, if_pos hg, if_pos h]


theorem toList_ba (s : ByteArray) : s.toList = s.data.toList := by simp [ByteArray.toList_eq]
theorem notEmpty (s : ByteArray) (h : 0 < s.size) : s.toList.isEmpty = false := by
  have := list_ne s h
  rw [toList_ba]; simpa using this
theorem empty_of (s : ByteArray) (h : s.size = 0) : s.toList.isEmpty = true := by
  rw [toList_ba, List.isEmpty_iff]
  exact List.eq_nil_of_length_eq_zero (by rw [size_list]; exact h)

theorem hexed_facts (s : ByteArray) (h : hexed s.data.toList = true) :
    ∃ h2 : 2 < s.size, ((s[0].toNat : Int) == 48) = true ∧ ((s[1].toNat : Int) == 120) = true ∧ (s.extract 2 s.size).toList.isEmpty = false ∧ 0 < (s.extract 2 s.size).size ∧ (s.extract 2 s.size).size ≤ s.size ∧
      (s.extract 2 s.size).data.toList = s.data.toList.drop 2 ∧ s.size - 2 = (s.extract 2 s.size).size := by
  simp only [hexed, decide_eq_true_eq, size_list] at h
  obtain ⟨h2, h3, h4⟩ := h
  refine ⟨h2, ?_, ?_, ?_, ?_, ?_, ?_, ?_⟩
  · rw [List.getElem?_eq_getElem (by simp; omega)] at h3
    have : s[0] = 48 := by injection h3
    rw [this]; rfl
  · rw [List.getElem?_eq_getElem (by simp; omega)] at h4
    have : s[1] = 120 := by injection h4
    rw [this]; rfl
  · have : (s.extract 2 s.size).toList ≠ [] := by
      intro e
      have h5 := congrArg List.length e
      simp [ByteArray.toList_eq] at h5
      omega
    simpa using this
  · simp; omega
  · simp
  · simp; exact List.take_of_length_le (by simp)
  · simp

theorem not_hexed_facts (s : ByteArray) (h : hexed s.data.toList = false) (h2 : 2 < s.size) :
    ((s[0].toNat : Int) == 48) = false ∨ (((s[0].toNat : Int) == 48) = true ∧ ((s[1].toNat : Int) == 120) = false) := by
  simp only [hexed, decide_eq_false_iff_not, size_list] at h
  by_cases h3 : s[0] = 48
  · right
    refine ⟨by rw [h3]; rfl, ?_⟩
    rw [beq_eq_false_iff_ne]
    intro h4
    apply h
    refine ⟨h2, ?_, ?_⟩
    · rw [List.getElem?_eq_getElem (by simp; omega)]; exact congrArg some h3
    · rw [List.getElem?_eq_getElem (by simp; omega)]
      refine congrArg some (UInt8.toNat_inj.1 ?_)
      show s[1].toNat = 120
      omega
  · left
    rw [beq_eq_false_iff_ne]
    intro h4
    apply h3
    refine UInt8.toNat_inj.1 ?_
    show s[0].toNat = 120 - 72
    omega


theorem hexed_eq (s : ByteArray) (h2 : 2 < s.size) : ((s.extract 0 2).toList == [48, 120]) = hexed s.data.toList := by
  rw [toList_ba, ByteArray.data_extract]
  have e : (s.data.extract 0 2).toList = [s[0], s[1]] := by
    apply List.ext_getElem
    · simp; omega
    · intro i h1 h2'
      simp at h1
      match i, h1 with
      | 0, _ => simp; rfl
      | 1, _ => simp; rfl
  rw [e]
  unfold hexed
  rw [size_list, List.getElem?_eq_getElem (by simp; omega), List.getElem?_eq_getElem (by simp; omega)]
  rw [Bool.eq_iff_iff, decide_eq_true_eq]
  simp only [List.cons_beq_cons, Bool.and_eq_true, beq_iff_eq]
  constructor
  · rintro ⟨h1, h3, _⟩
    exact ⟨h2, congrArg some h1, congrArg some h3⟩
  · rintro ⟨_, h1, h3⟩
    exact ⟨Option.some.inj h1, Option.some.inj h3, trivial⟩


theorem parseT_lt (b : Nat) (t : List UInt8) : (parseT b t).1 < 18446744073709551616 ∧ (parseT b t).2 < 100 := by
  unfold parseT
  split
  · exact ⟨by decide, by decide⟩
  · split
    · split
      · rename_i h; exact ⟨h, show 0 < 100 by decide⟩
      · exact ⟨by decide, by decide⟩
    · exact ⟨by decide, by decide⟩
theorem parseL_lt (l : List UInt8) : (parseL l).1 < 18446744073709551616 := by
  unfold parseL; split <;> exact (parseT_lt _ _).1
theorem parseL_code (l : List UInt8) : (parseL l).2 < 100 := by
  unfold parseL; split <;> exact (parseT_lt _ _).2

end Go.Proofs.Ytlhkjjfdmglabaa
