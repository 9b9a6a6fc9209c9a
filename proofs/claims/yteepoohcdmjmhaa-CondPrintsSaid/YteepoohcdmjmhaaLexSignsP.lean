
/- The contract of granuleref10.signs. -/
import Derived.Test.YteepoohcdmjmhaaLexSignP
import Derived.Laws.Rows
namespace Go.Proofs.Yteepoohcdmjmhaa
open Go.RowKit
set_option linter.unusedVariables false

def SL : List ByteArray := [⟨#[47, 92]⟩, ⟨#[92, 47]⟩, ⟨#[61]⟩, ⟨#[91]⟩, ⟨#[93]⟩, ⟨#[40]⟩, ⟨#[41]⟩, ⟨#[58]⟩, ⟨#[44]⟩, ⟨#[126]⟩]
def SLat (k : Nat) : ByteArray := SL.getD k ByteArray.empty
def sgFitsB (t u : ByteArray) : Bool := decide (u.size ≤ t.size) && ((t.extract 0 u.size).toList == u.toList)
theorem fits2 (t : ByteArray) (x y : UInt8) : sgFitsB t ⟨#[x, y]⟩ = (decide (2 ≤ t.size) && (bt t 0 == (x.toNat : Int) && bt t 1 == (y.toNat : Int))) := by
  unfold sgFitsB
  have e1 : (ByteArray.mk #[x, y]).size = 2 := rfl
  rw [e1]
  by_cases h : 2 ≤ t.size
  · have := two_slice (s := t) (k := 0) h x y
    simp only [Nat.zero_add] at this
    have e2 : (ByteArray.mk #[x, y]).toList = [x, y] := by rw [toList_ba]
    rw [e2, this]
  · simp [h]
theorem fits1 (t : ByteArray) (x : UInt8) (h : 0 < t.size) : sgFitsB t ⟨#[x]⟩ = (bt t 0 == (x.toNat : Int)) := by
  unfold sgFitsB
  have e1 : (ByteArray.mk #[x]).size = 1 := rfl
  rw [e1]
  have := one_slice (s := t) (k := 0) h x
  simp only [Nat.zero_add] at this
  have e2 : (ByteArray.mk #[x]).toList = [x] := by rw [toList_ba]
  rw [e2, this]
  simp; omega
theorem sign_hit {t : ByteArray} (h : 0 < t.size) {k : Nat} (hk : k < 10) (hp : ∀ j, j < k → sgFitsB t (SLat j) = false) (hf : sgFitsB t (SLat k) = true) : signB t = (SLat k).size := by
  have f0 : sgFitsB t (SLat 0) = (decide (2 ≤ t.size) && (bt t 0 == 47 && bt t 1 == 92)) := fits2 t 47 92
  have f1 : sgFitsB t (SLat 1) = (decide (2 ≤ t.size) && (bt t 0 == 92 && bt t 1 == 47)) := fits2 t 92 47
  have f2 : sgFitsB t (SLat 2) = (bt t 0 == 61) := fits1 t 61 h
  have f3 : sgFitsB t (SLat 3) = (bt t 0 == 91) := fits1 t 91 h
  have f4 : sgFitsB t (SLat 4) = (bt t 0 == 93) := fits1 t 93 h
  have f5 : sgFitsB t (SLat 5) = (bt t 0 == 40) := fits1 t 40 h
  have f6 : sgFitsB t (SLat 6) = (bt t 0 == 41) := fits1 t 41 h
  have f7 : sgFitsB t (SLat 7) = (bt t 0 == 58) := fits1 t 58 h
  have f8 : sgFitsB t (SLat 8) = (bt t 0 == 44) := fits1 t 44 h
  have f9 : sgFitsB t (SLat 9) = (bt t 0 == 126) := fits1 t 126 h
  unfold signB sign2 sign1
  match k, hk with
  | 0, _ =>
    have q := f0.symm.trans hf
    have e : (SLat 0).size = 2 := rfl
    rw [e]
    simp only [Bool.and_eq_true, decide_eq_true_eq] at q
    rw [if_pos]
    exact ⟨q.1, by rw [q.2.1, q.2.2]; rfl⟩
  | 1, _ =>
    have p0 := f0.symm.trans (hp 0 (by omega))
    have q := f1.symm.trans hf
    have e : (SLat 1).size = 2 := rfl
    rw [e]
    simp only [Bool.and_eq_true, decide_eq_true_eq] at q
    rw [if_pos]
    exact ⟨q.1, by rw [q.2.1, q.2.2]; simp⟩
  | 2, _ =>
    have p0 := f0.symm.trans (hp 0 (by omega))
    have p1 := f1.symm.trans (hp 1 (by omega))
    have q := f2.symm.trans hf
    have e : (SLat 2).size = 1 := rfl
    rw [e]
    rw [if_neg (by simp only [Bool.and_eq_false_iff, decide_eq_false_iff_not] at p0 p1; rintro ⟨h1, h2⟩; simp only [Bool.or_eq_true, Bool.and_eq_true] at h2; rcases h2 with ⟨h2, h3⟩ | ⟨h2, h3⟩ <;> simp_all), if_pos]
    rw [q]; simp
  | 3, _ =>
    have p0 := f0.symm.trans (hp 0 (by omega))
    have p1 := f1.symm.trans (hp 1 (by omega))
    have p2 := f2.symm.trans (hp 2 (by omega))
    have q := f3.symm.trans hf
    have e : (SLat 3).size = 1 := rfl
    rw [e]
    rw [if_neg (by simp only [Bool.and_eq_false_iff, decide_eq_false_iff_not] at p0 p1; rintro ⟨h1, h2⟩; simp only [Bool.or_eq_true, Bool.and_eq_true] at h2; rcases h2 with ⟨h2, h3⟩ | ⟨h2, h3⟩ <;> simp_all), if_pos]
    rw [q]; simp
  | 4, _ =>
    have p0 := f0.symm.trans (hp 0 (by omega))
    have p1 := f1.symm.trans (hp 1 (by omega))
    have p2 := f2.symm.trans (hp 2 (by omega))
    have p3 := f3.symm.trans (hp 3 (by omega))
    have q := f4.symm.trans hf
    have e : (SLat 4).size = 1 := rfl
    rw [e]
    rw [if_neg (by simp only [Bool.and_eq_false_iff, decide_eq_false_iff_not] at p0 p1; rintro ⟨h1, h2⟩; simp only [Bool.or_eq_true, Bool.and_eq_true] at h2; rcases h2 with ⟨h2, h3⟩ | ⟨h2, h3⟩ <;> simp_all), if_pos]
    rw [q]; simp
  | 5, _ =>
    have p0 := f0.symm.trans (hp 0 (by omega))
    have p1 := f1.symm.trans (hp 1 (by omega))
    have p2 := f2.symm.trans (hp 2 (by omega))
    have p3 := f3.symm.trans (hp 3 (by omega))
    have p4 := f4.symm.trans (hp 4 (by omega))
    have q := f5.symm.trans hf
    have e : (SLat 5).size = 1 := rfl
    rw [e]
    rw [if_neg (by simp only [Bool.and_eq_false_iff, decide_eq_false_iff_not] at p0 p1; rintro ⟨h1, h2⟩; simp only [Bool.or_eq_true, Bool.and_eq_true] at h2; rcases h2 with ⟨h2, h3⟩ | ⟨h2, h3⟩ <;> simp_all), if_pos]
    rw [q]; simp
  | 6, _ =>
    have p0 := f0.symm.trans (hp 0 (by omega))
    have p1 := f1.symm.trans (hp 1 (by omega))
    have p2 := f2.symm.trans (hp 2 (by omega))
    have p3 := f3.symm.trans (hp 3 (by omega))
    have p4 := f4.symm.trans (hp 4 (by omega))
    have p5 := f5.symm.trans (hp 5 (by omega))
    have q := f6.symm.trans hf
    have e : (SLat 6).size = 1 := rfl
    rw [e]
    rw [if_neg (by simp only [Bool.and_eq_false_iff, decide_eq_false_iff_not] at p0 p1; rintro ⟨h1, h2⟩; simp only [Bool.or_eq_true, Bool.and_eq_true] at h2; rcases h2 with ⟨h2, h3⟩ | ⟨h2, h3⟩ <;> simp_all), if_pos]
    rw [q]; simp
  | 7, _ =>
    have p0 := f0.symm.trans (hp 0 (by omega))
    have p1 := f1.symm.trans (hp 1 (by omega))
    have p2 := f2.symm.trans (hp 2 (by omega))
    have p3 := f3.symm.trans (hp 3 (by omega))
    have p4 := f4.symm.trans (hp 4 (by omega))
    have p5 := f5.symm.trans (hp 5 (by omega))
    have p6 := f6.symm.trans (hp 6 (by omega))
    have q := f7.symm.trans hf
    have e : (SLat 7).size = 1 := rfl
    rw [e]
    rw [if_neg (by simp only [Bool.and_eq_false_iff, decide_eq_false_iff_not] at p0 p1; rintro ⟨h1, h2⟩; simp only [Bool.or_eq_true, Bool.and_eq_true] at h2; rcases h2 with ⟨h2, h3⟩ | ⟨h2, h3⟩ <;> simp_all), if_pos]
    rw [q]; simp
  | 8, _ =>
    have p0 := f0.symm.trans (hp 0 (by omega))
    have p1 := f1.symm.trans (hp 1 (by omega))
    have p2 := f2.symm.trans (hp 2 (by omega))
    have p3 := f3.symm.trans (hp 3 (by omega))
    have p4 := f4.symm.trans (hp 4 (by omega))
    have p5 := f5.symm.trans (hp 5 (by omega))
    have p6 := f6.symm.trans (hp 6 (by omega))
    have p7 := f7.symm.trans (hp 7 (by omega))
    have q := f8.symm.trans hf
    have e : (SLat 8).size = 1 := rfl
    rw [e]
    rw [if_neg (by simp only [Bool.and_eq_false_iff, decide_eq_false_iff_not] at p0 p1; rintro ⟨h1, h2⟩; simp only [Bool.or_eq_true, Bool.and_eq_true] at h2; rcases h2 with ⟨h2, h3⟩ | ⟨h2, h3⟩ <;> simp_all), if_pos]
    rw [q]; simp
  | 9, _ =>
    have p0 := f0.symm.trans (hp 0 (by omega))
    have p1 := f1.symm.trans (hp 1 (by omega))
    have p2 := f2.symm.trans (hp 2 (by omega))
    have p3 := f3.symm.trans (hp 3 (by omega))
    have p4 := f4.symm.trans (hp 4 (by omega))
    have p5 := f5.symm.trans (hp 5 (by omega))
    have p6 := f6.symm.trans (hp 6 (by omega))
    have p7 := f7.symm.trans (hp 7 (by omega))
    have p8 := f8.symm.trans (hp 8 (by omega))
    have q := f9.symm.trans hf
    have e : (SLat 9).size = 1 := rfl
    rw [e]
    rw [if_neg (by simp only [Bool.and_eq_false_iff, decide_eq_false_iff_not] at p0 p1; rintro ⟨h1, h2⟩; simp only [Bool.or_eq_true, Bool.and_eq_true] at h2; rcases h2 with ⟨h2, h3⟩ | ⟨h2, h3⟩ <;> simp_all), if_pos]
    rw [q]; simp
theorem sign_none {t : ByteArray} (h : 0 < t.size) (hp : ∀ j, j < 10 → sgFitsB t (SLat j) = false) : signB t = 0 := by
  have f0 : sgFitsB t (SLat 0) = (decide (2 ≤ t.size) && (bt t 0 == 47 && bt t 1 == 92)) := fits2 t 47 92
  have f1 : sgFitsB t (SLat 1) = (decide (2 ≤ t.size) && (bt t 0 == 92 && bt t 1 == 47)) := fits2 t 92 47
  have f2 : sgFitsB t (SLat 2) = (bt t 0 == 61) := fits1 t 61 h
  have f3 : sgFitsB t (SLat 3) = (bt t 0 == 91) := fits1 t 91 h
  have f4 : sgFitsB t (SLat 4) = (bt t 0 == 93) := fits1 t 93 h
  have f5 : sgFitsB t (SLat 5) = (bt t 0 == 40) := fits1 t 40 h
  have f6 : sgFitsB t (SLat 6) = (bt t 0 == 41) := fits1 t 41 h
  have f7 : sgFitsB t (SLat 7) = (bt t 0 == 58) := fits1 t 58 h
  have f8 : sgFitsB t (SLat 8) = (bt t 0 == 44) := fits1 t 44 h
  have f9 : sgFitsB t (SLat 9) = (bt t 0 == 126) := fits1 t 126 h
  have p0 := f0.symm.trans (hp 0 (by omega))
  have p1 := f1.symm.trans (hp 1 (by omega))
  have p2 := f2.symm.trans (hp 2 (by omega))
  have p3 := f3.symm.trans (hp 3 (by omega))
  have p4 := f4.symm.trans (hp 4 (by omega))
  have p5 := f5.symm.trans (hp 5 (by omega))
  have p6 := f6.symm.trans (hp 6 (by omega))
  have p7 := f7.symm.trans (hp 7 (by omega))
  have p8 := f8.symm.trans (hp 8 (by omega))
  have p9 := f9.symm.trans (hp 9 (by omega))
  unfold signB sign2 sign1
  rw [if_neg (by simp only [Bool.and_eq_false_iff, decide_eq_false_iff_not] at p0 p1; rintro ⟨h1, h2⟩; simp only [Bool.or_eq_true, Bool.and_eq_true] at h2; rcases h2 with ⟨h2, h3⟩ | ⟨h2, h3⟩ <;> simp_all), if_neg]
  rw [p2, p3, p4, p5, p6, p7, p8, p9]; decide
theorem SLat_size : ∀ k, k < 10 → 1 ≤ (SLat k).size ∧ (SLat k).size ≤ 2 := by decide

end Go.Proofs.Yteepoohcdmjmhaa
