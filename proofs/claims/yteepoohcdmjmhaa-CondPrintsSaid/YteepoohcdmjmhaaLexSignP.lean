
/- The contracts of sign and of signs: how many bytes of a text are a sign. -/
import Derived.Test.YteepoohcdmjmhaaLexWalkP
import Derived.Laws.Rows
namespace Go.Proofs.Yteepoohcdmjmhaa
open Go.RowKit
set_option linter.unusedVariables false

/-- Two bytes cut out of a text. -/
theorem two_slice {s : ByteArray} {k : Nat} (h : k + 2 ≤ s.size) (x y : UInt8) : ((s.extract k (k + 2)).toList == [x, y]) = (bt s k == (x.toNat : Int) && bt s (k + 1) == (y.toNat : Int)) := by
  have e : (s.extract k (k + 2)).toList = [s[k], s[k + 1]] := by
    rw [toList_ba]
    apply List.ext_getElem
    · simp; omega
    · intro i h1 h2
      match i, h2 with
      | 0, _ => simp; rfl
      | 1, _ => simp; rfl
  rw [e]
  rw [bt_eq (show k < s.size by omega), bt_eq (show k + 1 < s.size by omega), Bool.eq_iff_iff]
  have q : ∀ c d : UInt8, c = d ↔ ((c.toNat : Int) = (d.toNat : Int)) := by
    intro c d
    constructor
    · intro h; rw [h]
    · intro h
      apply UInt8.toNat_inj.1
      omega
  simp [q]
theorem one_slice {s : ByteArray} {k : Nat} (h : k + 1 ≤ s.size) (x : UInt8) : ((s.extract k (k + 1)).toList == [x]) = (bt s k == (x.toNat : Int)) := by
  have e : (s.extract k (k + 1)).toList = [s[k]] := by
    rw [toList_ba]
    apply List.ext_getElem
    · simp; omega
    · intro i h1 h2
      match i, h2 with
      | 0, _ => simp; rfl
  rw [e]
  rw [bt_eq (show k < s.size by omega), Bool.eq_iff_iff]
  have q : ∀ c d : UInt8, c = d ↔ ((c.toNat : Int) = (d.toNat : Int)) := by
    intro c d
    constructor
    · intro h; rw [h]
    · intro h
      apply UInt8.toNat_inj.1
      omega
  simp [q]

def sign1 (c : Int) : Bool := c == 61 || c == 91 || c == 93 || c == 40 || c == 41 || c == 58 || c == 44 || c == 126
def sign2 (t : ByteArray) : Bool := (bt t 0 == 47 && bt t 1 == 92) || (bt t 0 == 92 && bt t 1 == 47)
def signB (t : ByteArray) : Nat := if 2 ≤ t.size ∧ sign2 t = true then 2 else if sign1 (bt t 0) = true then 1 else 0

set_option maxHeartbeats 1600000 in
theorem sign_any (t : ByteArray) (w : World) (h0 : 0 < t.size) (hs : t.size ≤ 140737488351232) :
    Calls Try.prog 35 #[.string t] w fun e w' => e = .returned (.int .i64 (signB t : Nat)) ∧ w = w' := by
  have H1 := Lib.hid (show sign1 (bt t 0) = (bt t 0 == 61 || bt t 0 == 91 || bt t 0 == 93 || bt t 0 == 40 || bt t 0 == 41 || bt t 0 == 58 || bt t 0 == 44 || bt t 0 == 126) from rfl)
  have HB := Lib.hid (bt_eq h0)
  have HD := Lib.hid (show signB t = if 2 ≤ t.size ∧ sign2 t = true then 2 else if sign1 (bt t 0) = true then 1 else 0 from rfl)
  by_cases h2 : 2 ≤ t.size
  · have HA := Lib.hid (two_slice (s := t) (k := 0) h2 47 92)
    have HC := Lib.hid (two_slice (s := t) (k := 0) h2 92 47)
    have h2' : (2 : Int) ≤ t.size := by omega
    cases ea : ((t.extract 0 2).toList == [47, 92])
    · cases eb : ((t.extract 0 2).toList == [92, 47])
      · have HX := Lib.hid (show signB t = if sign1 (bt t 0) = true then 1 else 0 from by
          rw [HD.out, if_neg]
          rintro ⟨_, h⟩
          have a1 := HA.out.symm.trans ea
          have a2 := HC.out.symm.trans eb
          unfold sign2 at h
          simp only [Nat.zero_add] at a1 a2
          rw [show ((47 : UInt8).toNat : Int) = 47 from rfl, show ((92 : UInt8).toNat : Int) = 92 from rfl] at a1 a2
          rw [a1, a2] at h; cases h)
        clear HA HC HD
        go_enter Try.func35, Try.ntmps35
        go_wp2_with fail
        all_goals
          go_ret
          refine ⟨?_, rfl⟩
          rw [HX.out, H1.out, HB.out]
          simp_all
      · have HX := Lib.hid (show signB t = 2 from by
          rw [HD.out, if_pos]
          refine ⟨h2, ?_⟩
          have a2 := HC.out.symm.trans eb
          unfold sign2
          simp only [Nat.zero_add] at a2
          rw [show ((47 : UInt8).toNat : Int) = 47 from rfl, show ((92 : UInt8).toNat : Int) = 92 from rfl] at a2
          rw [a2, Bool.or_true])
        clear HA HC HD
        go_enter Try.func35, Try.ntmps35
        go_wp2
        go_ret
        exact ⟨by rw [HX.out]; rfl, rfl⟩
    · have HX := Lib.hid (show signB t = 2 from by
        rw [HD.out, if_pos]
        refine ⟨h2, ?_⟩
        have a2 := HA.out.symm.trans ea
        unfold sign2
        simp only [Nat.zero_add] at a2
        rw [show ((47 : UInt8).toNat : Int) = 47 from rfl, show ((92 : UInt8).toNat : Int) = 92 from rfl] at a2
        rw [a2, Bool.true_or])
      clear HA HC HD
      go_enter Try.func35, Try.ntmps35
      go_wp2
      go_ret
      exact ⟨by rw [HX.out]; rfl, rfl⟩
  · have h2' : (t.size : Int) < 2 := by omega
    have HX := Lib.hid (show signB t = if sign1 (bt t 0) = true then 1 else 0 from by rw [HD.out, if_neg (fun h => h2 h.1)])
    clear HD h2
    go_enter Try.func35, Try.ntmps35
    go_wp2_with fail
    all_goals
      go_ret
      refine ⟨?_, rfl⟩
      rw [HX.out, H1.out, HB.out]
      simp_all
end Go.Proofs.Yteepoohcdmjmhaa
