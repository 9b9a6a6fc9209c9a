/- Tokens: plain. -/
import Derived.Test.YtcaifejfkpmeeaaGreatMgaa
import Derived.Test.YtcaifejfkpmeeaaGreatMgab
import Derived.Test.YtcaifejfkpmeeaaGreatRows
import Derived.Laws.Rows
namespace Go.Proofs.YtcaifejfkpmeeaaGreat
open Go.RowKit

def blankB (c : Int) : Bool := c == 32 || c == 9 || c == 13
def digitB (c : Int) : Bool := decide (48 ≤ c) && decide (c ≤ 57)
def letterB (c : Int) : Bool := (decide (97 ≤ c) && decide (c ≤ 122)) || (decide (65 ≤ c) && decide (c ≤ 90)) || c == 95 || digitB c
def okB (c : Int) : Bool := c == 10 || blankB c || (decide (32 ≤ c) && decide (c ≤ 126))

/-- The byte at a place. -/
def bt (s : ByteArray) (k : Nat) : Int := if h : k < s.size then (s[k].toNat : Int) else 0
theorem bt_eq {s : ByteArray} {k : Nat} (h : k < s.size) : bt s k = (s[k].toNat : Int) := by unfold bt; rw [dif_pos h]
theorem byte_bd (c : UInt8) : (0 : Int) ≤ (c.toNat : Int) ∧ (c.toNat : Int) ≤ 255 := by have := c.toNat_lt; omega

/-- From i on, the first place ahead of 'to' at which p holds; else where it stops. -/
def scan (p : Nat → Bool) (to i : Nat) : Nat := if i < to then (if p i then i else scan p to (i + 1)) else i
  termination_by to - i
theorem scan_stop {p : Nat → Bool} {to i : Nat} (h : ¬ i < to) : scan p to i = i := by rw [scan, if_neg h]
theorem scan_hit {p : Nat → Bool} {to i : Nat} (h : i < to) (hp : p i = true) : scan p to i = i := by rw [scan, if_pos h, if_pos hp]
theorem scan_miss {p : Nat → Bool} {to i : Nat} (h : i < to) (hp : p i = false) : scan p to i = scan p to (i + 1) := by rw [scan, if_pos h, if_neg (by simp [hp])]
theorem scan_ge (p : Nat → Bool) (to : Nat) : ∀ (n i : Nat), to - i = n → i ≤ scan p to i ∧ (i ≤ to → scan p to i ≤ to) := by
  intro n
  induction n with
  | zero => intro i h; rw [scan_stop (by omega)]; exact ⟨Nat.le_refl _, fun h => h⟩
  | succ n ih =>
    intro i h
    cases hp : p i
    · rw [scan_miss (by omega) hp]
      obtain ⟨h1, h2⟩ := ih (i + 1) (by omega)
      exact ⟨by omega, fun _ => h2 (by omega)⟩
    · rw [scan_hit (by omega) hp]; exact ⟨Nat.le_refl _, fun h => h⟩
theorem scan_spec (p : Nat → Bool) (to : Nat) : ∀ (n i : Nat), to - i = n → (∀ j, i ≤ j → j < scan p to i → p j = false) ∧ (scan p to i < to → p (scan p to i) = true) := by
  intro n
  induction n with
  | zero => intro i h; rw [scan_stop (by omega)]; exact ⟨fun j h1 h2 => by omega, fun h => by omega⟩
  | succ n ih =>
    intro i h
    cases hp : p i
    · rw [scan_miss (by omega) hp]
      obtain ⟨h1, h2⟩ := ih (i + 1) (by omega)
      refine ⟨fun j h3 h4 => ?_, h2⟩
      by_cases e : j = i
      · subst e; exact hp
      · exact h1 j (by omega) h4
    · rw [scan_hit (by omega) hp]; exact ⟨fun j h1 h2 => by omega, fun _ => hp⟩

/-- Back from t, over places at which p holds, down to a. -/
def back (p : Nat → Bool) (a t : Nat) : Nat := if a < t then (if p (t - 1) then back p a (t - 1) else t) else t
  termination_by t
theorem back_stop {p : Nat → Bool} {a t : Nat} (h : ¬ a < t) : back p a t = t := by rw [back, if_neg h]
theorem back_hit {p : Nat → Bool} {a t : Nat} (h : a < t) (hp : p (t - 1) = true) : back p a t = back p a (t - 1) := by rw [back, if_pos h, if_pos hp]
theorem back_miss {p : Nat → Bool} {a t : Nat} (h : a < t) (hp : p (t - 1) = false) : back p a t = t := by rw [back, if_pos h, if_neg (by simp [hp])]
theorem back_bd (p : Nat → Bool) (a : Nat) : ∀ t, a ≤ t → a ≤ back p a t ∧ back p a t ≤ t := by
  intro t
  induction t with
  | zero => intro h; rw [back_stop (by omega)]; exact ⟨h, Nat.le_refl _⟩
  | succ t ih =>
    intro h
    by_cases hlt : a < t + 1
    · cases hp : p t
      · rw [back_miss hlt hp]; exact ⟨h, Nat.le_refl _⟩
      · rw [back_hit hlt hp]
        have := ih (by omega)
        simp only [Nat.add_sub_cancel]
        omega
    · rw [back_stop hlt]; exact ⟨h, Nat.le_refl _⟩

/-! ### Check -/
def badB (s : ByteArray) (k : Nat) : Bool := !okB (bt s k)
def checkZ (s : ByteArray) : Int × Int :=
  if 16384 < s.size then (2, 0) else if scan (badB s) s.size 0 < s.size then (100, (scan (badB s) s.size 0 : Nat)) else (0, 0)

/-! ### Lines -/
def slash2 (s : ByteArray) (k : Nat) : Bool := bt s k == 47 && bt s (k + 1) == 47
def cutF (s : ByteArray) (from_ to : Nat) : Nat := if scan (slash2 s) (to - 1) from_ + 1 < to then scan (slash2 s) (to - 1) from_ else to
def solidB (s : ByteArray) (k : Nat) : Bool := !blankB (bt s k)
def headF (s : ByteArray) (from_ to : Nat) : Nat := scan (solidB s) (cutF s from_ to) from_
def tailF (s : ByteArray) (from_ to : Nat) : Nat := back (fun k => blankB (bt s k)) (headF s from_ to) (cutF s from_ to)
def nlB (s : ByteArray) (k : Nat) : Bool := bt s k == 10
/-- The lines from a place on, behind those that are there. -/
def rowsF (s : ByteArray) (from_ : Nat) (acc : List (Nat × Nat)) : List (Nat × Nat) :=
  if h : from_ ≤ s.size then
    have : s.size + 1 - (scan (nlB s) s.size from_ + 1) < s.size + 1 - from_ := by
      have := (scan_ge (nlB s) s.size _ from_ rfl).1
      omega
    rowsF s (scan (nlB s) s.size from_ + 1)
      (if headF s from_ (scan (nlB s) s.size from_) < tailF s from_ (scan (nlB s) s.size from_) then acc ++ [(headF s from_ (scan (nlB s) s.size from_), tailF s from_ (scan (nlB s) s.size from_))] else acc)
  else acc
  termination_by s.size + 1 - from_
theorem rowsF_step {s : ByteArray} {f : Nat} {acc : List (Nat × Nat)} (h : f ≤ s.size) : rowsF s f acc = rowsF s (scan (nlB s) s.size f + 1)
      (if headF s f (scan (nlB s) s.size f) < tailF s f (scan (nlB s) s.size f) then acc ++ [(headF s f (scan (nlB s) s.size f), tailF s f (scan (nlB s) s.size f))] else acc) := by rw [rowsF, dif_pos h]
theorem rowsF_end {s : ByteArray} {f : Nat} {acc : List (Nat × Nat)} (h : ¬ f ≤ s.size) : rowsF s f acc = acc := by rw [rowsF, dif_neg h]
theorem cutF_bd (s : ByteArray) (f t : Nat) (h : f ≤ t) : f ≤ cutF s f t ∧ cutF s f t ≤ t := by
  unfold cutF
  have := scan_ge (slash2 s) (t - 1) _ f rfl
  split <;> omega
theorem headF_bd (s : ByteArray) (f t : Nat) (h : f ≤ t) : f ≤ headF s f t ∧ headF s f t ≤ cutF s f t := by
  have h1 := cutF_bd s f t h
  have h2 := scan_ge (solidB s) (cutF s f t) _ f rfl
  exact ⟨h2.1, h2.2 h1.1⟩
theorem tailF_bd (s : ByteArray) (f t : Nat) (h : f ≤ t) : headF s f t ≤ tailF s f t ∧ tailF s f t ≤ t := by
  have h1 := cutF_bd s f t h
  have h2 := headF_bd s f t h
  have h3 := back_bd (fun k => blankB (bt s k)) (headF s f t) (cutF s f t) h2.2
  exact ⟨h3.1, by unfold tailF; omega⟩
end Go.Proofs.YtcaifejfkpmeeaaGreat
namespace Go.Proofs.YtcaifejfkpmeeaaGreat
open Go.RowKit
set_option linter.unusedVariables false

theorem blank_any (c : Int) (w : World) : Calls Tryz.prog 18 #[.int .u8 c] w fun e w' => e = .returned (.bool (blankB c)) ∧ w = w' := by
  have H := Lib.hid (show blankB c = (c == 32 || c == 9 || c == 13) from rfl)
  cases h1 : c == 32 <;> cases h2 : c == 9 <;> cases h3 : c == 13
  all_goals
    go_enter Tryz.func18, Tryz.ntmps18
    go_wp2
    go_ret
    exact ⟨ret_bool (by rw [H.out, h1, h2, h3]; rfl), rfl⟩

theorem ldigit_any (c : Int) (w : World) : Calls Tryz.prog 39 #[.int .u8 c] w fun e w' => e = .returned (.bool (digitB c)) ∧ w = w' := by
  have H := Lib.hid (show digitB c = (decide (48 ≤ c) && decide (c ≤ 57)) from rfl)
  by_cases h1 : c < 48
  · go_enter Tryz.func39, Tryz.ntmps39
    go_wp2
    go_ret
    exact ⟨ret_bool (by rw [H.out]; simp; omega), rfl⟩
  by_cases h2 : 57 < c
  · have h1' : 48 ≤ c := by omega
    clear h1
    go_enter Tryz.func39, Tryz.ntmps39
    go_wp2
    go_ret
    exact ⟨ret_bool (by rw [H.out]; simp; omega), rfl⟩
  · have h1' : 48 ≤ c := by omega
    have h2' : c ≤ 57 := by omega
    clear h1 h2
    go_enter Tryz.func39, Tryz.ntmps39
    go_wp2
    go_ret
    exact ⟨ret_bool (by rw [H.out]; simp; omega), rfl⟩

theorem letter_any (c : Int) (w : World) : Calls Tryz.prog 35 #[.int .u8 c] w fun e w' => e = .returned (.bool (letterB c)) ∧ w = w' := by
  have H := Lib.hid (show letterB c = ((decide (97 ≤ c) && decide (c ≤ 122)) || (decide (65 ≤ c) && decide (c ≤ 90)) || c == 95 || (decide (48 ≤ c) && decide (c ≤ 57))) from rfl)
  have hall : (c < 48) ∨ (48 ≤ c ∧ c ≤ 57) ∨ (58 ≤ c ∧ c ≤ 64) ∨ (65 ≤ c ∧ c ≤ 90) ∨ (91 ≤ c ∧ c ≤ 94) ∨ (c = 95) ∨ (c = 96) ∨ (97 ≤ c ∧ c ≤ 122) ∨ (123 ≤ c) := by omega
  rcases hall with h1 | ⟨h1, h2⟩ | ⟨h1, h2⟩ | ⟨h1, h2⟩ | ⟨h1, h2⟩ | rfl | rfl | ⟨h1, h2⟩ | h1
  all_goals
    try have n95 : (c == 95) = false := beq_eq_false_iff_ne.2 (by omega)
    go_enter Tryz.func35, Tryz.ntmps35
    go_wp2_with (go_at_call 39; refine (ldigit_any _ _).mono ?_; rintro e w' ⟨rfl, rfl⟩)
    go_ret
    exact ⟨ret_bool (by rw [H.out]; first | rfl | ((try unfold digitB); rw [Bool.eq_iff_iff]; simp; omega) | ((try unfold digitB); simp; omega) | ((try unfold digitB); simp)), rfl⟩

end Go.Proofs.YtcaifejfkpmeeaaGreat
namespace Go.Proofs.YtcaifejfkpmeeaaGreat
open Go.RowKit
set_option linter.unusedVariables false

/-- Where a name ends. -/
def nonLet (s : ByteArray) (k : Nat) : Bool := !letterB (bt s k)
def wordE (s : ByteArray) (i : Nat) : Nat := scan (nonLet s) s.size i
theorem wordE_bd (s : ByteArray) (i : Nat) : i ≤ wordE s i ∧ (i ≤ s.size → wordE s i ≤ s.size) := scan_ge _ _ _ _ rfl
theorem bt_extract (s : ByteArray) (i k : Nat) (hi : i ≤ s.size) : bt (s.extract i s.size) k = bt s (i + k) := by
  unfold bt
  have e : (s.extract i s.size).size = s.size - i := by simp
  by_cases h : k < s.size - i
  · rw [dif_pos (by omega), dif_pos (by omega)]
    congr 2
    exact ByteArray.getElem_extract ..
  · rw [dif_neg (by omega), dif_neg (by omega)]
theorem scan_shift (p q : Nat → Bool) (d : Nat) (h : ∀ k, p k = q (d + k)) : ∀ (n to i : Nat), to - i = n → d + scan p to i = scan q (d + to) (d + i) := by
  intro n
  induction n with
  | zero => intro to i hn; rw [scan_stop (by omega), scan_stop (by omega)]
  | succ n ih =>
    intro to i hn
    cases hp : p i
    · rw [scan_miss (by omega) hp, scan_miss (p := q) (to := d + to) (i := d + i) (by omega) (by rw [← h]; exact hp)]
      exact ih to (i + 1) (by omega)
    · rw [scan_hit (by omega) hp, scan_hit (p := q) (to := d + to) (i := d + i) (by omega) (by rw [← h]; exact hp)]
theorem wordE_extract (s : ByteArray) (i : Nat) (hi : i ≤ s.size) : i + wordE (s.extract i s.size) 0 = wordE s i := by
  unfold wordE
  have e : (s.extract i s.size).size = s.size - i := by simp
  rw [e, scan_shift (nonLet (s.extract i s.size)) (nonLet s) i (fun k => by unfold nonLet; rw [bt_extract s i k hi]) _ _ _ rfl]
  congr 1 <;> omega
theorem extract_extract' (s : ByteArray) (i n : Nat) (hi : i + n ≤ s.size) : (s.extract i s.size).extract 0 n = s.extract i (i + n) := by
  rw [ByteArray.extract_extract]
  congr 1; omega

end Go.Proofs.YtcaifejfkpmeeaaGreat
namespace Go.Proofs.YtcaifejfkpmeeaaGreat
open Go.RowKit
set_option linter.unusedVariables false

/-- Two bytes cut out of a text. -/
theorem two_slice {s : ByteArray} {k : Nat} (h : k + 2 ≤ s.size) (x y : UInt8) : ((s.extract k (k + 2)).toList == [x, y]) = (bt s k == (x.toNat : Int) && bt s (k + 1) == (y.toNat : Int)) := by
  have e : (s.extract k (k + 2)).toList = [s[k], s[k + 1]] := by
    rw [toList_ba]
    apply List.ext_getElem
    · simp; omega
    · intro i h1 h2
      match i, h2 with
      | 0, _ => simp; rfl
      | 1, _ => simp; rfl
  rw [e]
  rw [bt_eq (show k < s.size by omega), bt_eq (show k + 1 < s.size by omega), Bool.eq_iff_iff]
  have q : ∀ c d : UInt8, c = d ↔ ((c.toNat : Int) = (d.toNat : Int)) := by
    intro c d
    constructor
    · intro h; rw [h]
    · intro h
      apply UInt8.toNat_inj.1
      omega
  simp [q]
theorem one_slice {s : ByteArray} {k : Nat} (h : k + 1 ≤ s.size) (x : UInt8) : ((s.extract k (k + 1)).toList == [x]) = (bt s k == (x.toNat : Int)) := by
  have e : (s.extract k (k + 1)).toList = [s[k]] := by
    rw [toList_ba]
    apply List.ext_getElem
    · simp; omega
    · intro i h1 h2
      match i, h2 with
      | 0, _ => simp; rfl
  rw [e]
  rw [bt_eq (show k < s.size by omega), Bool.eq_iff_iff]
  have q : ∀ c d : UInt8, c = d ↔ ((c.toNat : Int) = (d.toNat : Int)) := by
    intro c d
    constructor
    · intro h; rw [h]
    · intro h
      apply UInt8.toNat_inj.1
      omega
  simp [q]

def sign1 (c : Int) : Bool := c == 61 || c == 91 || c == 93 || c == 40 || c == 41 || c == 58 || c == 44 || c == 126
def sign2 (t : ByteArray) : Bool := (bt t 0 == 47 && bt t 1 == 92) || (bt t 0 == 92 && bt t 1 == 47)
def signB (t : ByteArray) : Nat := if 2 ≤ t.size ∧ sign2 t = true then 2 else if sign1 (bt t 0) = true then 1 else 0

set_option maxHeartbeats 1600000 in
theorem sign_any (t : ByteArray) (w : World) (h0 : 0 < t.size) (hs : t.size ≤ 140737488351232) :
    Calls Tryz.prog 38 #[.string t] w fun e w' => e = .returned (.int .i64 (signB t : Nat)) ∧ w = w' := by
  have H1 := Lib.hid (show sign1 (bt t 0) = (bt t 0 == 61 || bt t 0 == 91 || bt t 0 == 93 || bt t 0 == 40 || bt t 0 == 41 || bt t 0 == 58 || bt t 0 == 44 || bt t 0 == 126) from rfl)
  have HB := Lib.hid (bt_eq h0)
  have HD := Lib.hid (show signB t = if 2 ≤ t.size ∧ sign2 t = true then 2 else if sign1 (bt t 0) = true then 1 else 0 from rfl)
  by_cases h2 : 2 ≤ t.size
  · have HA := Lib.hid (two_slice (s := t) (k := 0) h2 47 92)
    have HC := Lib.hid (two_slice (s := t) (k := 0) h2 92 47)
    have h2' : (2 : Int) ≤ t.size := by omega
    cases ea : ((t.extract 0 2).toList == [47, 92])
    · cases eb : ((t.extract 0 2).toList == [92, 47])
      · have HX := Lib.hid (show signB t = if sign1 (bt t 0) = true then 1 else 0 from by
          rw [HD.out, if_neg]
          rintro ⟨_, h⟩
          have a1 := HA.out.symm.trans ea
          have a2 := HC.out.symm.trans eb
          unfold sign2 at h
          simp only [Nat.zero_add] at a1 a2
          rw [show ((47 : UInt8).toNat : Int) = 47 from rfl, show ((92 : UInt8).toNat : Int) = 92 from rfl] at a1 a2
          rw [a1, a2] at h; cases h)
        clear HA HC HD
        go_enter Tryz.func38, Tryz.ntmps38
        go_wp2_with fail
        all_goals
          go_ret
          refine ⟨?_, rfl⟩
          rw [HX.out, H1.out, HB.out]
          simp_all
      · have HX := Lib.hid (show signB t = 2 from by
          rw [HD.out, if_pos]
          refine ⟨h2, ?_⟩
          have a2 := HC.out.symm.trans eb
          unfold sign2
          simp only [Nat.zero_add] at a2
          rw [show ((47 : UInt8).toNat : Int) = 47 from rfl, show ((92 : UInt8).toNat : Int) = 92 from rfl] at a2
          rw [a2, Bool.or_true])
        clear HA HC HD
        go_enter Tryz.func38, Tryz.ntmps38
        go_wp2
        go_ret
        exact ⟨by rw [HX.out]; rfl, rfl⟩
    · have HX := Lib.hid (show signB t = 2 from by
        rw [HD.out, if_pos]
        refine ⟨h2, ?_⟩
        have a2 := HA.out.symm.trans ea
        unfold sign2
        simp only [Nat.zero_add] at a2
        rw [show ((47 : UInt8).toNat : Int) = 47 from rfl, show ((92 : UInt8).toNat : Int) = 92 from rfl] at a2
        rw [a2, Bool.true_or])
      clear HA HC HD
      go_enter Tryz.func38, Tryz.ntmps38
      go_wp2
      go_ret
      exact ⟨by rw [HX.out]; rfl, rfl⟩
  · have h2' : (t.size : Int) < 2 := by omega
    have HX := Lib.hid (show signB t = if sign1 (bt t 0) = true then 1 else 0 from by rw [HD.out, if_neg (fun h => h2 h.1)])
    clear HD h2
    go_enter Tryz.func38, Tryz.ntmps38
    go_wp2_with fail
    all_goals
      go_ret
      refine ⟨?_, rfl⟩
      rw [HX.out, H1.out, HB.out]
      simp_all
end Go.Proofs.YtcaifejfkpmeeaaGreat
namespace Go.Proofs.YtcaifejfkpmeeaaGreat
open Go.RowKit
set_option linter.unusedVariables false

def SL : List ByteArray := [⟨#[47, 92]⟩, ⟨#[92, 47]⟩, ⟨#[61]⟩, ⟨#[91]⟩, ⟨#[93]⟩, ⟨#[40]⟩, ⟨#[41]⟩, ⟨#[58]⟩, ⟨#[44]⟩, ⟨#[126]⟩]
def SLat (k : Nat) : ByteArray := SL.getD k ByteArray.empty
def sgFitsB (t u : ByteArray) : Bool := decide (u.size ≤ t.size) && ((t.extract 0 u.size).toList == u.toList)
theorem fits2 (t : ByteArray) (x y : UInt8) : sgFitsB t ⟨#[x, y]⟩ = (decide (2 ≤ t.size) && (bt t 0 == (x.toNat : Int) && bt t 1 == (y.toNat : Int))) := by
  unfold sgFitsB
  have e1 : (ByteArray.mk #[x, y]).size = 2 := rfl
  rw [e1]
  by_cases h : 2 ≤ t.size
  · have := two_slice (s := t) (k := 0) h x y
    simp only [Nat.zero_add] at this
    have e2 : (ByteArray.mk #[x, y]).toList = [x, y] := by rw [toList_ba]
    rw [e2, this]
  · simp [h]
theorem fits1 (t : ByteArray) (x : UInt8) (h : 0 < t.size) : sgFitsB t ⟨#[x]⟩ = (bt t 0 == (x.toNat : Int)) := by
  unfold sgFitsB
  have e1 : (ByteArray.mk #[x]).size = 1 := rfl
  rw [e1]
  have := one_slice (s := t) (k := 0) h x
  simp only [Nat.zero_add] at this
  have e2 : (ByteArray.mk #[x]).toList = [x] := by rw [toList_ba]
  rw [e2, this]
  simp; omega
theorem sign_hit {t : ByteArray} (h : 0 < t.size) {k : Nat} (hk : k < 10) (hp : ∀ j, j < k → sgFitsB t (SLat j) = false) (hf : sgFitsB t (SLat k) = true) : signB t = (SLat k).size := by
  have f0 : sgFitsB t (SLat 0) = (decide (2 ≤ t.size) && (bt t 0 == 47 && bt t 1 == 92)) := fits2 t 47 92
  have f1 : sgFitsB t (SLat 1) = (decide (2 ≤ t.size) && (bt t 0 == 92 && bt t 1 == 47)) := fits2 t 92 47
  have f2 : sgFitsB t (SLat 2) = (bt t 0 == 61) := fits1 t 61 h
  have f3 : sgFitsB t (SLat 3) = (bt t 0 == 91) := fits1 t 91 h
  have f4 : sgFitsB t (SLat 4) = (bt t 0 == 93) := fits1 t 93 h
  have f5 : sgFitsB t (SLat 5) = (bt t 0 == 40) := fits1 t 40 h
  have f6 : sgFitsB t (SLat 6) = (bt t 0 == 41) := fits1 t 41 h
  have f7 : sgFitsB t (SLat 7) = (bt t 0 == 58) := fits1 t 58 h
  have f8 : sgFitsB t (SLat 8) = (bt t 0 == 44) := fits1 t 44 h
  have f9 : sgFitsB t (SLat 9) = (bt t 0 == 126) := fits1 t 126 h
  unfold signB sign2 sign1
  match k, hk with
  | 0, _ =>
    have q := f0.symm.trans hf
    have e : (SLat 0).size = 2 := rfl
    rw [e]
    simp only [Bool.and_eq_true, decide_eq_true_eq] at q
    rw [if_pos]
    exact ⟨q.1, by rw [q.2.1, q.2.2]; rfl⟩
  | 1, _ =>
    have p0 := f0.symm.trans (hp 0 (by omega))
    have q := f1.symm.trans hf
    have e : (SLat 1).size = 2 := rfl
    rw [e]
    simp only [Bool.and_eq_true, decide_eq_true_eq] at q
    rw [if_pos]
    exact ⟨q.1, by rw [q.2.1, q.2.2]; simp⟩
  | 2, _ =>
    have p0 := f0.symm.trans (hp 0 (by omega))
    have p1 := f1.symm.trans (hp 1 (by omega))
    have q := f2.symm.trans hf
    have e : (SLat 2).size = 1 := rfl
    rw [e]
    rw [if_neg (by simp only [Bool.and_eq_false_iff, decide_eq_false_iff_not] at p0 p1; rintro ⟨h1, h2⟩; simp only [Bool.or_eq_true, Bool.and_eq_true] at h2; rcases h2 with ⟨h2, h3⟩ | ⟨h2, h3⟩ <;> simp_all), if_pos]
    rw [q]; simp
  | 3, _ =>
    have p0 := f0.symm.trans (hp 0 (by omega))
    have p1 := f1.symm.trans (hp 1 (by omega))
    have p2 := f2.symm.trans (hp 2 (by omega))
    have q := f3.symm.trans hf
    have e : (SLat 3).size = 1 := rfl
    rw [e]
    rw [if_neg (by simp only [Bool.and_eq_false_iff, decide_eq_false_iff_not] at p0 p1; rintro ⟨h1, h2⟩; simp only [Bool.or_eq_true, Bool.and_eq_true] at h2; rcases h2 with ⟨h2, h3⟩ | ⟨h2, h3⟩ <;> simp_all), if_pos]
    rw [q]; simp
  | 4, _ =>
    have p0 := f0.symm.trans (hp 0 (by omega))
    have p1 := f1.symm.trans (hp 1 (by omega))
    have p2 := f2.symm.trans (hp 2 (by omega))
    have p3 := f3.symm.trans (hp 3 (by omega))
    have q := f4.symm.trans hf
    have e : (SLat 4).size = 1 := rfl
    rw [e]
    rw [if_neg (by simp only [Bool.and_eq_false_iff, decide_eq_false_iff_not] at p0 p1; rintro ⟨h1, h2⟩; simp only [Bool.or_eq_true, Bool.and_eq_true] at h2; rcases h2 with ⟨h2, h3⟩ | ⟨h2, h3⟩ <;> simp_all), if_pos]
    rw [q]; simp
  | 5, _ =>
    have p0 := f0.symm.trans (hp 0 (by omega))
    have p1 := f1.symm.trans (hp 1 (by omega))
    have p2 := f2.symm.trans (hp 2 (by omega))
    have p3 := f3.symm.trans (hp 3 (by omega))
    have p4 := f4.symm.trans (hp 4 (by omega))
    have q := f5.symm.trans hf
    have e : (SLat 5).size = 1 := rfl
    rw [e]
    rw [if_neg (by simp only [Bool.and_eq_false_iff, decide_eq_false_iff_not] at p0 p1; rintro ⟨h1, h2⟩; simp only [Bool.or_eq_true, Bool.and_eq_true] at h2; rcases h2 with ⟨h2, h3⟩ | ⟨h2, h3⟩ <;> simp_all), if_pos]
    rw [q]; simp
  | 6, _ =>
    have p0 := f0.symm.trans (hp 0 (by omega))
    have p1 := f1.symm.trans (hp 1 (by omega))
    have p2 := f2.symm.trans (hp 2 (by omega))
    have p3 := f3.symm.trans (hp 3 (by omega))
    have p4 := f4.symm.trans (hp 4 (by omega))
    have p5 := f5.symm.trans (hp 5 (by omega))
    have q := f6.symm.trans hf
    have e : (SLat 6).size = 1 := rfl
    rw [e]
    rw [if_neg (by simp only [Bool.and_eq_false_iff, decide_eq_false_iff_not] at p0 p1; rintro ⟨h1, h2⟩; simp only [Bool.or_eq_true, Bool.and_eq_true] at h2; rcases h2 with ⟨h2, h3⟩ | ⟨h2, h3⟩ <;> simp_all), if_pos]
    rw [q]; simp
  | 7, _ =>
    have p0 := f0.symm.trans (hp 0 (by omega))
    have p1 := f1.symm.trans (hp 1 (by omega))
    have p2 := f2.symm.trans (hp 2 (by omega))
    have p3 := f3.symm.trans (hp 3 (by omega))
    have p4 := f4.symm.trans (hp 4 (by omega))
    have p5 := f5.symm.trans (hp 5 (by omega))
    have p6 := f6.symm.trans (hp 6 (by omega))
    have q := f7.symm.trans hf
    have e : (SLat 7).size = 1 := rfl
    rw [e]
    rw [if_neg (by simp only [Bool.and_eq_false_iff, decide_eq_false_iff_not] at p0 p1; rintro ⟨h1, h2⟩; simp only [Bool.or_eq_true, Bool.and_eq_true] at h2; rcases h2 with ⟨h2, h3⟩ | ⟨h2, h3⟩ <;> simp_all), if_pos]
    rw [q]; simp
  | 8, _ =>
    have p0 := f0.symm.trans (hp 0 (by omega))
    have p1 := f1.symm.trans (hp 1 (by omega))
    have p2 := f2.symm.trans (hp 2 (by omega))
    have p3 := f3.symm.trans (hp 3 (by omega))
    have p4 := f4.symm.trans (hp 4 (by omega))
    have p5 := f5.symm.trans (hp 5 (by omega))
    have p6 := f6.symm.trans (hp 6 (by omega))
    have p7 := f7.symm.trans (hp 7 (by omega))
    have q := f8.symm.trans hf
    have e : (SLat 8).size = 1 := rfl
    rw [e]
    rw [if_neg (by simp only [Bool.and_eq_false_iff, decide_eq_false_iff_not] at p0 p1; rintro ⟨h1, h2⟩; simp only [Bool.or_eq_true, Bool.and_eq_true] at h2; rcases h2 with ⟨h2, h3⟩ | ⟨h2, h3⟩ <;> simp_all), if_pos]
    rw [q]; simp
  | 9, _ =>
    have p0 := f0.symm.trans (hp 0 (by omega))
    have p1 := f1.symm.trans (hp 1 (by omega))
    have p2 := f2.symm.trans (hp 2 (by omega))
    have p3 := f3.symm.trans (hp 3 (by omega))
    have p4 := f4.symm.trans (hp 4 (by omega))
    have p5 := f5.symm.trans (hp 5 (by omega))
    have p6 := f6.symm.trans (hp 6 (by omega))
    have p7 := f7.symm.trans (hp 7 (by omega))
    have p8 := f8.symm.trans (hp 8 (by omega))
    have q := f9.symm.trans hf
    have e : (SLat 9).size = 1 := rfl
    rw [e]
    rw [if_neg (by simp only [Bool.and_eq_false_iff, decide_eq_false_iff_not] at p0 p1; rintro ⟨h1, h2⟩; simp only [Bool.or_eq_true, Bool.and_eq_true] at h2; rcases h2 with ⟨h2, h3⟩ | ⟨h2, h3⟩ <;> simp_all), if_pos]
    rw [q]; simp
theorem sign_none {t : ByteArray} (h : 0 < t.size) (hp : ∀ j, j < 10 → sgFitsB t (SLat j) = false) : signB t = 0 := by
  have f0 : sgFitsB t (SLat 0) = (decide (2 ≤ t.size) && (bt t 0 == 47 && bt t 1 == 92)) := fits2 t 47 92
  have f1 : sgFitsB t (SLat 1) = (decide (2 ≤ t.size) && (bt t 0 == 92 && bt t 1 == 47)) := fits2 t 92 47
  have f2 : sgFitsB t (SLat 2) = (bt t 0 == 61) := fits1 t 61 h
  have f3 : sgFitsB t (SLat 3) = (bt t 0 == 91) := fits1 t 91 h
  have f4 : sgFitsB t (SLat 4) = (bt t 0 == 93) := fits1 t 93 h
  have f5 : sgFitsB t (SLat 5) = (bt t 0 == 40) := fits1 t 40 h
  have f6 : sgFitsB t (SLat 6) = (bt t 0 == 41) := fits1 t 41 h
  have f7 : sgFitsB t (SLat 7) = (bt t 0 == 58) := fits1 t 58 h
  have f8 : sgFitsB t (SLat 8) = (bt t 0 == 44) := fits1 t 44 h
  have f9 : sgFitsB t (SLat 9) = (bt t 0 == 126) := fits1 t 126 h
  have p0 := f0.symm.trans (hp 0 (by omega))
  have p1 := f1.symm.trans (hp 1 (by omega))
  have p2 := f2.symm.trans (hp 2 (by omega))
  have p3 := f3.symm.trans (hp 3 (by omega))
  have p4 := f4.symm.trans (hp 4 (by omega))
  have p5 := f5.symm.trans (hp 5 (by omega))
  have p6 := f6.symm.trans (hp 6 (by omega))
  have p7 := f7.symm.trans (hp 7 (by omega))
  have p8 := f8.symm.trans (hp 8 (by omega))
  have p9 := f9.symm.trans (hp 9 (by omega))
  unfold signB sign2 sign1
  rw [if_neg (by simp only [Bool.and_eq_false_iff, decide_eq_false_iff_not] at p0 p1; rintro ⟨h1, h2⟩; simp only [Bool.or_eq_true, Bool.and_eq_true] at h2; rcases h2 with ⟨h2, h3⟩ | ⟨h2, h3⟩ <;> simp_all), if_neg]
  rw [p2, p3, p4, p5, p6, p7, p8, p9]; decide
theorem SLat_size : ∀ k, k < 10 → 1 ≤ (SLat k).size ∧ (SLat k).size ≤ 2 := by decide

end Go.Proofs.YtcaifejfkpmeeaaGreat
namespace Go.Proofs.YtcaifejfkpmeeaaGreat
open Go.RowKit

/-- The code that a number's text has. -/
def numE (s : ByteArray) (i n : Nat) : Nat := (parseL (s.extract i n).data.toList).2
/-- What stands at a place: its kind (0 a blank, 1 a word, 2 a number, 3 a sign, 9 a fault), where it ends, the fault's code. -/
def stepF (s : ByteArray) (i : Nat) : Nat × Nat × Nat :=
  if blankB (bt s i) = true then (0, i + 1, 0)
  else if 0 < signB (s.extract i s.size) then (3, i + signB (s.extract i s.size), 0)
  else if letterB (bt s i) = false then (9, i, 100)
  else if 24 < wordE s i - i then (9, i, 101)
  else if digitB (bt s i) = true then (if numE s i (wordE s i) = 0 then (2, wordE s i, 0) else (9, i, numE s i (wordE s i)))
  else (1, wordE s i, 0)
/-- The tokens from a place on behind those that are there: kind, from, to; the fault's code and place. -/
def toksF (s : ByteArray) (i : Nat) (acc : List (Nat × Nat × Nat)) : List (Nat × Nat × Nat) × Nat × Nat :=
  if h : i < s.size then
    (if (stepF s i).1 = 9 then ([], (stepF s i).2.2, i)
     else if _h2 : i < (stepF s i).2.1 then toksF s (stepF s i).2.1 (if (stepF s i).1 = 0 then acc else acc ++ [((stepF s i).1, i, (stepF s i).2.1)])
     else ([], 0, 0))
  else (acc ++ [(4, s.size, s.size)], 0, s.size)
  termination_by s.size - i
theorem toksF_end {s : ByteArray} {i : Nat} {acc : List (Nat × Nat × Nat)} (h : ¬ i < s.size) : toksF s i acc = (acc ++ [(4, s.size, s.size)], 0, s.size) := by rw [toksF, dif_neg h]
theorem toksF_bad {s : ByteArray} {i : Nat} {acc : List (Nat × Nat × Nat)} {c n : Nat} (h : i < s.size) (hs : stepF s i = (9, n, c)) : toksF s i acc = ([], c, i) := by
  rw [toksF, dif_pos h, if_pos (by rw [hs])]; rw [hs]
theorem toksF_skip {s : ByteArray} {i : Nat} {acc : List (Nat × Nat × Nat)} (h : i < s.size) (hb : blankB (bt s i) = true) : toksF s i acc = toksF s (i + 1) acc := by
  have hs : stepF s i = (0, i + 1, 0) := by unfold stepF; rw [if_pos hb]
  rw [toksF, dif_pos h, hs, if_neg (by simp), dif_pos (by simp)]; rfl
theorem toksF_tok {s : ByteArray} {i : Nat} {acc : List (Nat × Nat × Nat)} {k n c : Nat} (h : i < s.size) (hs : stepF s i = (k, n, c)) (hk : k = 1 ∨ k = 2 ∨ k = 3) (hn : i < n) : toksF s i acc = toksF s n (acc ++ [(k, i, n)]) := by
  rw [toksF, dif_pos h, hs, if_neg (by simp; omega), dif_pos hn]
  simp only []
  rw [if_neg (by omega)]
theorem stepF_sign {s : ByteArray} {i : Nat} (hb : blankB (bt s i) = false) (hn : 0 < signB (s.extract i s.size)) : stepF s i = (3, i + signB (s.extract i s.size), 0) := by
  unfold stepF; rw [if_neg (by simp [hb]), if_pos hn]
theorem stepF_byte {s : ByteArray} {i : Nat} (hb : blankB (bt s i) = false) (hn : signB (s.extract i s.size) = 0) (hl : letterB (bt s i) = false) : stepF s i = (9, i, 100) := by
  unfold stepF; rw [if_neg (by simp [hb]), if_neg (by omega), if_pos hl]
theorem stepF_long {s : ByteArray} {i : Nat} (hb : blankB (bt s i) = false) (hn : signB (s.extract i s.size) = 0) (hl : letterB (bt s i) = true) (h24 : 24 < wordE s i - i) : stepF s i = (9, i, 101) := by
  unfold stepF; rw [if_neg (by simp [hb]), if_neg (by omega), if_neg (by simp [hl]), if_pos h24]
theorem stepF_word {s : ByteArray} {i : Nat} (hb : blankB (bt s i) = false) (hn : signB (s.extract i s.size) = 0) (hl : letterB (bt s i) = true) (h24 : ¬ 24 < wordE s i - i) (hd : digitB (bt s i) = false) : stepF s i = (1, wordE s i, 0) := by
  unfold stepF; rw [if_neg (by simp [hb]), if_neg (by omega), if_neg (by simp [hl]), if_neg h24, if_neg (by simp [hd])]
theorem stepF_num {s : ByteArray} {i : Nat} (hb : blankB (bt s i) = false) (hn : signB (s.extract i s.size) = 0) (hl : letterB (bt s i) = true) (h24 : ¬ 24 < wordE s i - i) (hd : digitB (bt s i) = true) (he : numE s i (wordE s i) = 0) : stepF s i = (2, wordE s i, 0) := by
  unfold stepF; rw [if_neg (by simp [hb]), if_neg (by omega), if_neg (by simp [hl]), if_neg h24, if_pos hd, if_pos he]
theorem stepF_bad {s : ByteArray} {i : Nat} (hb : blankB (bt s i) = false) (hn : signB (s.extract i s.size) = 0) (hl : letterB (bt s i) = true) (h24 : ¬ 24 < wordE s i - i) (hd : digitB (bt s i) = true) (he : numE s i (wordE s i) ≠ 0) : stepF s i = (9, i, numE s i (wordE s i)) := by
  unfold stepF; rw [if_neg (by simp [hb]), if_neg (by omega), if_neg (by simp [hl]), if_neg h24, if_pos hd, if_neg he]
theorem wordE_gt {s : ByteArray} {i : Nat} (h : i < s.size) (hl : letterB (bt s i) = true) : i < wordE s i := by
  unfold wordE
  rw [scan_miss h (by unfold nonLet; rw [hl]; rfl)]
  exact (scan_ge (nonLet s) s.size _ (i + 1) rfl).1
theorem wordE_eq {s : ByteArray} {i : Nat} (h : i < s.size) (hl : letterB (bt s i) = false) : wordE s i = i := by
  unfold wordE
  exact scan_hit h (by unfold nonLet; rw [hl]; rfl)
theorem signB_le {t : ByteArray} (h : 0 < t.size) : signB t ≤ t.size := by
  unfold signB
  split
  · omega
  · split <;> omega

/-- The cells of tokens. -/
def tokCells (s : ByteArray) (at_ : Nat) (l : List (Nat × Nat × Nat)) : List Value := l.flatMap fun r => [.int .i64 (r.1 : Nat), .string (s.extract r.2.1 r.2.2), .int .i64 ((at_ : Int) + (r.2.1 : Nat))]
theorem tokCells_snoc (s : ByteArray) (at_ : Nat) (l : List (Nat × Nat × Nat)) (k a e : Nat) : tokCells s at_ (l ++ [(k, a, e)]) = tokCells s at_ l ++ [.int .i64 (k : Nat), .string (s.extract a e), .int .i64 ((at_ : Int) + (a : Nat))] := by simp [tokCells]
theorem tokCells_len (s : ByteArray) (at_ : Nat) (l : List (Nat × Nat × Nat)) : (tokCells s at_ l).length = l.length * 3 := by
  induction l with
  | nil => rfl
  | cons r l ih => rw [tokCells, List.flatMap_cons, List.length_append]; show 3 + (tokCells s at_ l).length = _; rw [ih]; simp; omega
/-- Where a fault is told: a line without one tells no place. -/
def toksAt (at_ : Nat) (r : List (Nat × Nat × Nat) × Nat × Nat) : Int := if r.2.1 = 0 then 0 else (at_ : Int) + (r.2.2 : Nat)
theorem numE_lt (s : ByteArray) (i n : Nat) : numE s i n < 100 := parseL_code _
theorem empty_at_end (s : ByteArray) : s.extract s.size s.size = ByteArray.empty := by simp
end Go.Proofs.YtcaifejfkpmeeaaGreat
