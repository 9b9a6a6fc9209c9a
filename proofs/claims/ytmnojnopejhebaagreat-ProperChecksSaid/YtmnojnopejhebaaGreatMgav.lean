/- A text that is made of blanks, words, numbers and signs is read as just these: plain. -/
import Derived.Test.YtmnojnopejhebaaGreatMgaa
import Derived.Test.YtmnojnopejhebaaGreatMgag
import Derived.Test.YtmnojnopejhebaaGreatMgau
namespace Go.Proofs.YtmnojnopejhebaaGreat
set_option linter.unusedVariables false
set_option linter.unusedSimpArgs false
set_option maxRecDepth 100000
set_option maxHeartbeats 25600000
section
open Go.RowKit
def seg (L : List UInt8) (a b : Nat) : List UInt8 := (L.drop a).take (b - a)
theorem g1z {L : List UInt8} {a b : Nat} (h : a < b) (hb : b ≤ L.length) : seg L a b = L[a]'(by omega) :: seg L (a + 1) b := by
 unfold seg
 rw [List.drop_eq_getElem_cons (by omega), show b - a = (b - (a + 1)) + 1 by omega, List.take_succ_cons]
theorem m1h {L : List UInt8} {a b : Nat} (h : a ≤ b) (hb : b ≤ L.length) : (seg L a b).length = b - a := by simp [seg]; omega
theorem w0g (s : ByteArray) (a b : Nat) : (s.extract a b).data.toList = seg s.data.toList a b := by
 rw [ByteArray.data_extract, Array.toList_extract]; rfl
theorem x0t (s : ByteArray) : s.data.toList.length = s.size := by show s.data.toList.length = s.data.size; simp
theorem l1y {s : ByteArray} {k : Nat} (h : k < s.data.toList.length) : bt s k = ((s.data.toList[k]).toNat : Int) := by
 have h' : k < s.size := by rw [← x0t]; exact h
 rw [l0e h']; rfl
def l1z (c : UInt8) : Bool := c0p (c.toNat : Int)
end
section
open Go.RowKit
theorem v0y {s : ByteArray} (h : (litA s).2.1 = 0) : (f0i s).1 = 0 ∧ litA s = g0b s src0 (h0j s 0 []) := by
 unfold litA at h ⊢
 by_cases hc : (f0i s).1 = 0
 ·exact ⟨hc, by rw [if_pos hc]⟩
 ·rw [if_neg hc] at h; exact absurd h hc
end
section
open Go.RowKit
abbrev Pc := Nat × List UInt8
def flat (ps : List Pc) : List UInt8 := ps.flatMap fun p => p.2
def letU (c : UInt8) : Bool := e0x (c.toNat : Int)
def signL : List (List UInt8) := [[61], [91], [93], [40], [41], [58], [44], [126], [47, 92], [92, 47]]
def pcOK (p : Pc) : Prop :=
 (p.1 = 0 ∧ p.2 = [32]) ∨ (p.1 = 3 ∧ p.2 ∈ signL) ∨
 (p.1 = 1 ∧ p.2.all letU = true ∧ p.2.length ≤ 24 ∧ ∃ c l, p.2 = c :: l ∧ f0y (c.toNat : Int) = false) ∨
 (p.1 = 2 ∧ p.2.all letU = true ∧ p.2.length ≤ 24 ∧ (∃ c l, p.2 = c :: l ∧ f0y (c.toNat : Int) = true) ∧ (b0h p.2).2 = 0)
end
end Go.Proofs.YtmnojnopejhebaaGreat
