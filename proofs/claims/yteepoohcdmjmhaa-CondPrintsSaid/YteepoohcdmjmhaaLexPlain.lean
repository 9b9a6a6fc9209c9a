/- Bytes, and scanning along a text: plain. -/
import Derived.Test.YteepoohcdmjmhaaParsePlain
namespace Go.Proofs.Yteepoohcdmjmhaa
open Go.RowKit

def blankB (c : Int) : Bool := c == 32 || c == 9 || c == 13
def digitB (c : Int) : Bool := decide (48 ≤ c) && decide (c ≤ 57)
def letterB (c : Int) : Bool := (decide (97 ≤ c) && decide (c ≤ 122)) || (decide (65 ≤ c) && decide (c ≤ 90)) || c == 95 || digitB c
def okB (c : Int) : Bool := c == 10 || blankB c || (decide (32 ≤ c) && decide (c ≤ 126))

/-- The byte at a place. -/
def bt (s : ByteArray) (k : Nat) : Int := if h : k < s.size then (s[k].toNat : Int) else 0
theorem bt_eq {s : ByteArray} {k : Nat} (h : k < s.size) : bt s k = (s[k].toNat : Int) := by unfold bt; rw [dif_pos h]
theorem byte_bd (c : UInt8) : (0 : Int) ≤ (c.toNat : Int) ∧ (c.toNat : Int) ≤ 255 := by have := c.toNat_lt; omega

/-- From i on, the first place ahead of 'to' at which p holds; else where it stops. -/
def scan (p : Nat → Bool) (to i : Nat) : Nat := if i < to then (if p i then i else scan p to (i + 1)) else i
  termination_by to - i
theorem scan_stop {p : Nat → Bool} {to i : Nat} (h : ¬ i < to) : scan p to i = i := by rw [scan, if_neg h]
theorem scan_hit {p : Nat → Bool} {to i : Nat} (h : i < to) (hp : p i = true) : scan p to i = i := by rw [scan, if_pos h, if_pos hp]
theorem scan_miss {p : Nat → Bool} {to i : Nat} (h : i < to) (hp : p i = false) : scan p to i = scan p to (i + 1) := by rw [scan, if_pos h, if_neg (by simp [hp])]
theorem scan_ge (p : Nat → Bool) (to : Nat) : ∀ (n i : Nat), to - i = n → i ≤ scan p to i ∧ (i ≤ to → scan p to i ≤ to) := by
  intro n
  induction n with
  | zero => intro i h; rw [scan_stop (by omega)]; exact ⟨Nat.le_refl _, fun h => h⟩
  | succ n ih =>
    intro i h
    cases hp : p i
    · rw [scan_miss (by omega) hp]
      obtain ⟨h1, h2⟩ := ih (i + 1) (by omega)
      exact ⟨by omega, fun _ => h2 (by omega)⟩
    · rw [scan_hit (by omega) hp]; exact ⟨Nat.le_refl _, fun h => h⟩
theorem scan_spec (p : Nat → Bool) (to : Nat) : ∀ (n i : Nat), to - i = n → (∀ j, i ≤ j → j < scan p to i → p j = false) ∧ (scan p to i < to → p (scan p to i) = true) := by
  intro n
  induction n with
  | zero => intro i h; rw [scan_stop (by omega)]; exact ⟨fun j h1 h2 => by omega, fun h => by omega⟩
  | succ n ih =>
    intro i h
    cases hp : p i
    · rw [scan_miss (by omega) hp]
      obtain ⟨h1, h2⟩ := ih (i + 1) (by omega)
      refine ⟨fun j h3 h4 => ?_, h2⟩
      by_cases e : j = i
      · subst e; exact hp
      · exact h1 j (by omega) h4
    · rw [scan_hit (by omega) hp]; exact ⟨fun j h1 h2 => by omega, fun _ => hp⟩

/-- Back from t, over places at which p holds, down to a. -/
def back (p : Nat → Bool) (a t : Nat) : Nat := if a < t then (if p (t - 1) then back p a (t - 1) else t) else t
  termination_by t
theorem back_stop {p : Nat → Bool} {a t : Nat} (h : ¬ a < t) : back p a t = t := by rw [back, if_neg h]
theorem back_hit {p : Nat → Bool} {a t : Nat} (h : a < t) (hp : p (t - 1) = true) : back p a t = back p a (t - 1) := by rw [back, if_pos h, if_pos hp]
theorem back_miss {p : Nat → Bool} {a t : Nat} (h : a < t) (hp : p (t - 1) = false) : back p a t = t := by rw [back, if_pos h, if_neg (by simp [hp])]
theorem back_bd (p : Nat → Bool) (a : Nat) : ∀ t, a ≤ t → a ≤ back p a t ∧ back p a t ≤ t := by
  intro t
  induction t with
  | zero => intro h; rw [back_stop (by omega)]; exact ⟨h, Nat.le_refl _⟩
  | succ t ih =>
    intro h
    by_cases hlt : a < t + 1
    · cases hp : p t
      · rw [back_miss hlt hp]; exact ⟨h, Nat.le_refl _⟩
      · rw [back_hit hlt hp]
        have := ih (by omega)
        simp only [Nat.add_sub_cancel]
        omega
    · rw [back_stop hlt]; exact ⟨h, Nat.le_refl _⟩

/-! ### Check -/
def badB (s : ByteArray) (k : Nat) : Bool := !okB (bt s k)
def checkZ (s : ByteArray) : Int × Int :=
  if 16384 < s.size then (2, 0) else if scan (badB s) s.size 0 < s.size then (100, (scan (badB s) s.size 0 : Nat)) else (0, 0)

/-! ### Lines -/
def slash2 (s : ByteArray) (k : Nat) : Bool := bt s k == 47 && bt s (k + 1) == 47
def cutF (s : ByteArray) (from_ to : Nat) : Nat := if scan (slash2 s) (to - 1) from_ + 1 < to then scan (slash2 s) (to - 1) from_ else to
def solidB (s : ByteArray) (k : Nat) : Bool := !blankB (bt s k)
def headF (s : ByteArray) (from_ to : Nat) : Nat := scan (solidB s) (cutF s from_ to) from_
def tailF (s : ByteArray) (from_ to : Nat) : Nat := back (fun k => blankB (bt s k)) (headF s from_ to) (cutF s from_ to)
def nlB (s : ByteArray) (k : Nat) : Bool := bt s k == 10
/-- The lines from a place on, behind those that are there. -/
def rowsF (s : ByteArray) (from_ : Nat) (acc : List (Nat × Nat)) : List (Nat × Nat) :=
  if h : from_ ≤ s.size then
    have : s.size + 1 - (scan (nlB s) s.size from_ + 1) < s.size + 1 - from_ := by
      have := (scan_ge (nlB s) s.size _ from_ rfl).1
      omega
    rowsF s (scan (nlB s) s.size from_ + 1)
      (if headF s from_ (scan (nlB s) s.size from_) < tailF s from_ (scan (nlB s) s.size from_) then acc ++ [(headF s from_ (scan (nlB s) s.size from_), tailF s from_ (scan (nlB s) s.size from_))] else acc)
  else acc
  termination_by s.size + 1 - from_
theorem rowsF_step {s : ByteArray} {f : Nat} {acc : List (Nat × Nat)} (h : f ≤ s.size) : rowsF s f acc = rowsF s (scan (nlB s) s.size f + 1)
      (if headF s f (scan (nlB s) s.size f) < tailF s f (scan (nlB s) s.size f) then acc ++ [(headF s f (scan (nlB s) s.size f), tailF s f (scan (nlB s) s.size f))] else acc) := by rw [rowsF, dif_pos h]
theorem rowsF_end {s : ByteArray} {f : Nat} {acc : List (Nat × Nat)} (h : ¬ f ≤ s.size) : rowsF s f acc = acc := by rw [rowsF, dif_neg h]
theorem cutF_bd (s : ByteArray) (f t : Nat) (h : f ≤ t) : f ≤ cutF s f t ∧ cutF s f t ≤ t := by
  unfold cutF
  have := scan_ge (slash2 s) (t - 1) _ f rfl
  split <;> omega
theorem headF_bd (s : ByteArray) (f t : Nat) (h : f ≤ t) : f ≤ headF s f t ∧ headF s f t ≤ cutF s f t := by
  have h1 := cutF_bd s f t h
  have h2 := scan_ge (solidB s) (cutF s f t) _ f rfl
  exact ⟨h2.1, h2.2 h1.1⟩
theorem tailF_bd (s : ByteArray) (f t : Nat) (h : f ≤ t) : headF s f t ≤ tailF s f t ∧ tailF s f t ≤ t := by
  have h1 := cutF_bd s f t h
  have h2 := headF_bd s f t h
  have h3 := back_bd (fun k => blankB (bt s k)) (headF s f t) (cutF s f t) h2.2
  exact ⟨h3.1, by unfold tailF; omega⟩
end Go.Proofs.Yteepoohcdmjmhaa
