/- Contracts of digit and Parse of the package field. -/
import Derived.Test.YtmnojnopejhebaaGreatMgaa
import Derived.Test.YtmnojnopejhebaaGreatRows
import Derived.Laws.Rows
namespace Go.Proofs.YtmnojnopejhebaaGreat
set_option linter.unusedVariables false
set_option linter.unusedSimpArgs false
set_option maxRecDepth 100000
set_option maxHeartbeats 25600000
section
open Go.RowKit
def Rds (w : World) (size : Nat) (p : Option Addr) (n : Nat) (xs : List Value) : Prop :=
 xs.length = n * size ∧ (0 < n → ∃ g off, p = some ⟨g, off, none⟩ ∧ ∀ j, j < n * size → w.cell? ⟨g, off + j, none⟩ = xs[j]?)
section
variable {w w' : World} {size n : Nat} {p : Option Addr} {xs : List Value}
theorem Rds.keep (h : Rds w size p n xs) (hk : ∀ (a : Addr) (v : Value), w.cell? a = some v → w'.cell? a = some v) : Rds w' size p n xs := by
 refine ⟨h.1, fun hn => ?_⟩
 obtain ⟨g, off, hp, hc⟩ := h.2 hn
 refine ⟨g, off, hp, fun j hj => ?_⟩
 have h1 := hc j hj
 rw [List.getElem?_eq_getElem (show j < xs.length by have := h.1; omega)] at h1 ⊢
 exact hk _ _ h1
theorem Rds.below (h : Rds w size p n xs) (hb : Below w.heap.size w w') : Rds w' size p n xs := h.keep fun _ _ hc => (hb.cell (World.block_lt_of_cell? w _ hc)).trans hc
theorem Rds.dn (h : Rds w size p n xs) (k : Nat) : Rds (w.drewN k) size p n xs := h
theorem Rds.at_ (h : Rds w size p n xs) {j : Nat} (hj : j < n * size) : ∃ g off u, p = some ⟨g, off, none⟩ ∧ xs[j]? = some u ∧ w.cell? ⟨g, off + j, none⟩ = some u := by
 have hn : 0 < n := by
  rcases Nat.eq_zero_or_pos n with h0 | h0
  ·subst h0; omega
  ·exact h0
 obtain ⟨g, off, hp, hc⟩ := h.2 hn
 have hl : j < xs.length := by have := h.1; omega
 exact ⟨g, off, xs[j], hp, List.getElem?_eq_getElem hl, (hc j hj).trans (List.getElem?_eq_getElem hl)⟩
theorem Rds.int_at {k : IntKind} {zs : List Int} (h : Rds w 1 p zs.length (zs.map (Value.int k))) {j : Nat} (hj : j < zs.length) : ∃ g off, p = some ⟨g, off, none⟩ ∧ w.cell? ⟨g, off + j, none⟩ = some (.int k (zs.getD j 0)) := by
 obtain ⟨g, off, u, hp, hu, hc⟩ := h.at_ (j := j) (by omega)
 refine ⟨g, off, hp, ?_⟩
 rw [hc, ← hu]
 simp [List.getD, List.getElem?_eq_getElem hj]
end
theorem Rds.of_own {w : World} {base : Nat} {e : TypeId} {size : Nat} {v : Value} {n : Nat} {xs : List Value} (h : w.ownsRow base e size v n xs) : ∃ p c, v = .slice p n c ∧ Rds w size p n xs ∧ n ≤ c := by
 have h' := h
 obtain ⟨hl, ⟨rfl, rfl⟩ | ⟨g, cap, cur, rfl, hb, hg, hnc, hc, _⟩⟩ := h
 ·exact ⟨_, _, rfl, ⟨hl, fun h => absurd h (by omega)⟩, Nat.le_refl _⟩
 ·exact ⟨_, _, rfl, ⟨hl, fun _ => ⟨g, 0, rfl, fun j hj => by rw [Nat.zero_add]; exact h'.cellAt j (by omega)⟩⟩, hnc⟩
end
section
open Go.RowKit
abbrev I64 (n : Int) : Prop := -9223372036854775808 ≤ n ∧ n ≤ 9223372036854775807
theorem l0r {a b : ByteArray} (h : ¬ a = b) : (a.toList == b.toList) = false := by
 rw [beq_eq_false_iff_ne]
 intro e
 rw [e0v, e0v] at e
 exact h (ByteArray.ext (Array.toList_inj.1 e))
theorem Rds.grownR {w w' : World} {size n : Nat} {p : Option Addr} {xs : List Value} {row : Option Nat} (h : Rds w size p n xs) (hg : w.grownBy w' row) (hne : ∀ a, p = some a → some a.block ≠ row) : Rds w' size p n xs := by
 refine ⟨h.1, fun hn => ?_⟩
 obtain ⟨g, off, hp, hc⟩ := h.2 hn
 refine ⟨g, off, hp, fun j hj => ?_⟩
 have h1 := hc j hj
 rw [List.getElem?_eq_getElem (show j < xs.length by have := h.1; omega)] at h1 ⊢
 exact hg.cell h1 (hne ⟨g, off, none⟩ hp)
theorem a0b {w w' : World} {row : Option Nat} (hb : Below w.heap.size w w') : w.grownBy w' row := ⟨hb.os, hb.tape, hb.output, hb.size, fun i hi _ => hb.block i hi⟩
theorem a0a {a b c : World} {row : Option Nat} (h : a.grownBy b row) (k : b.grownBy c row) : a.grownBy c row :=
 ⟨k.os.trans h.os, k.tape.trans h.tape, k.output.trans h.output, Nat.le_trans h.size k.size, fun i hi hne => (k.block i (Nat.lt_of_lt_of_le hi h.size) hne).trans (h.block i hi hne)⟩
theorem a0r (w : World) (b j : Nat) (v : Value) : w.grownBy (w.setCell ⟨b, j, none⟩ v) (some b) :=
 ⟨rfl, rfl, rfl, by simp, fun k _ hne => Below.heap_setCell w _ v k (fun e => hne (by rw [e]))⟩
end
section
open Go.RowKit
def regL (n : Int) : List UInt8 := if n = 31 then [88, 90, 82] else if 0 ≤ n ∧ n < 31 then [88] ++ intL n else []
theorem d0m (n : Int) (h : -9223372036854775808 ≤ n ∧ n ≤ 9223372036854775807) : (intL n).length ≤ 65 := by
 unfold intL
 split
 ·have := i0r 10 (-n).toNat (by decide) (by omega)
  simp; omega
 ·have := i0r 10 n.toNat (by decide) (by omega)
  omega
theorem h0o (n : Int) (w : World) (hn : -9223372036854775808 ≤ n ∧ n ≤ 9223372036854775807) :
  Calls Tryz.prog 61 #[.int .i64 n] w fun e w' => e = .returned (.string (ba (regL n))) ∧ ∃ m, w' = w.drewN m := by
 by_cases h31 : n = 31
 ·subst h31
  go_enter Tryz.func61, Tryz.ntmps61
  go_wp2_with fail
  go_ret
  exact ⟨rfl, 0, rfl⟩
 ·by_cases hr : 0 ≤ n ∧ n < 31
  ·have H := h_ (show regL n = [88] ++ intL n by unfold regL; rw [if_neg h31, if_pos hr])
   obtain ⟨h0, h1⟩ := hr
   have b1 := d0m n hn
   have hcat : ∀ wx : World, (Op.stringOp .add { data := #[88] } (ba (intL n))).run Tryz.prog wx = .ok (.string (ba ([88] ++ intL n))) wx := r0i (P := Tryz.prog) [88] (intL n) (by simp; omega)
   have HI := h_ (fun w1 : World => l0l n w1 hn)
   go_enter Tryz.func61, Tryz.ntmps61
   go_wp2_with fail
   refine (HI.out _).mono ?_
   rintro e w' ⟨rfl, m, rfl⟩
   go_wp2_with fail
   go_ret
   exact ⟨by rw [H.out]; rfl, _, rfl⟩
  ·have H := h_ (show regL n = [] by unfold regL; rw [if_neg h31, if_neg hr])
   by_cases h0 : 0 ≤ n
   ·have h1 : ¬ n < 31 := fun h => hr ⟨h0, h⟩
    go_enter Tryz.func61, Tryz.ntmps61
    go_wp2_with fail
    go_ret
    exact ⟨by rw [H.out]; rfl, 0, rfl⟩
   ·go_enter Tryz.func61, Tryz.ntmps61
    go_wp2_with fail
    go_ret
    exact ⟨by rw [H.out]; rfl, 0, rfl⟩
def regN (s : ByteArray) : Option Nat := (List.range 32).find? fun j => decide (s = ba (regL (j : Nat)))
theorem v0l {s : ByteArray} {j : Nat} (h : regN s = some j) : j < 32 := by
 unfold regN at h
 rw [List.find?_range_eq_some] at h
 simpa using h.2.1
def n0q : Option Nat → Value
 | some j => .tuple #[.int .i64 (j : Nat), .bool true]
 | none => .tuple #[.int .i64 0, .bool false]
theorem i1g {s : ByteArray} {j : Nat} (hj : j < 32) (h : s = ba (regL (j : Nat))) (hp : ∀ i, i < j → ¬ s = ba (regL (i : Nat))) : regN s = some j := by
 unfold regN
 rw [List.find?_range_eq_some]
 refine ⟨by simpa using h, by simpa using hj, fun i hi => by simpa using hp i hi⟩
theorem d1t {s : ByteArray} (hp : ∀ i, i < 32 → ¬ s = ba (regL (i : Nat))) : regN s = none := by
 unfold regN
 rw [List.find?_range_eq_none]
 intro i hi
 simpa using hp i hi
theorem d0k (s : ByteArray) (w : World) :
  Calls Tryz.prog 136 #[.string s] w fun e w' => e = .returned (n0q (regN s)) ∧ ∃ m, w' = w.drewN m := by
 have HH := h_ (fun j hj h hp => i1g (s := s) (j := j) hj h hp)
 have HN := h_ (fun hp => d1t (s := s) hp)
 generalize regN s = R at *
 go_enter Tryz.func136, Tryz.ntmps136
 go_wp2_with fail
 go_loopw [5] (fun i wr => ∃ k : Nat, k ≤ 32 ∧ i = .int .i64 k ∧ (∀ i, i < k → ¬ s = ba (regL (i : Nat))) ∧ ∃ m, wr = w.drewN m) (fun i _ => 32 - (intOf i).toNat)
 case atStart => exact ⟨0, by omega, rfl, fun i hi => by omega, 0, rfl⟩
 case round =>
  obtain ⟨k, hk, rfl, hP, m, rfl⟩ := hrel
  have HP := h_ hP
  clear hP
  by_cases hkl : k < 32
  ·have hk0 : (0 : Int) ≤ k := by omega
   have hkn : (k : Int) < 32 := by omega
   have HR := h_ (h0o (k : Int) (w.drewN m) (by omega))
   have HC := h_ (fun (h : s = ba (regL (k : Nat))) => HH.out k hkl h HP.out)
   have HE := h_ (fun (h : ¬ s = ba (regL (k : Nat))) => l0r h)
   obtain ⟨x, hx⟩ : ∃ x, x = ba (regL (k : Nat)) := ⟨_, rfl⟩
   have HX := h_ hx.symm
   rw [← hx] at HR HC HE
   clear hx
   go_wp2_with fail
   refine (HR.out).mono ?_
   rintro e w' ⟨rfl, m2, rfl⟩
   by_cases hs : s = x
   ·have HC2 := h_ (HC.out hs)
    clear HC
    subst hs
    go_wp2_with fail
    go_ret2
    exact ⟨by rw [HC2.out]; rfl, _, rfl⟩
   ·have he := HE.out hs
    have HP2 := h_ (show ∀ i, i < k + 1 → ¬ s = ba (regL (i : Nat)) from fun i hi => by
     by_cases e : i = k
     ·subst e; rw [HX.out]; exact hs
     ·exact HP.out i (by omega))
    go_wp2_with fail
    go_roundw
    case rel => exact ⟨k + 1, by omega, by go_num, HP2.out, _, rfl⟩
    case measure => simp [intOf]; omega
  ·obtain rfl : k = 32 := by omega
   have HF := h_ (HN.out HP.out)
   go_wp2_with fail
   go_ret2
   exact ⟨by rw [HF.out]; rfl, m, rfl⟩
theorem y0b {P : Program} (a b c : List UInt8) (h : c = a ++ b) (hl : a.length + b.length ≤ 1000000) (w : World) : (Op.stringOp .add (ba a) (ba b)).run P w = .ok (.string (ba c)) w := by
 rw [h]; exact r0i a b hl w
theorem l0t (n : Int) (h : I64 n) : (regL n).length ≤ 66 := by
 have := d0m n h
 unfold regL
 split
 ·decide
 ·split
  ·simp; omega
  ·simp
end
section
open Go.RowKit
def c0p (c : Int) : Bool := c == 32 || c == 9 || c == 13
def f0y (c : Int) : Bool := decide (48 ≤ c) && decide (c ≤ 57)
def e0x (c : Int) : Bool := (decide (97 ≤ c) && decide (c ≤ 122)) || (decide (65 ≤ c) && decide (c ≤ 90)) || c == 95 || f0y c
def okB (c : Int) : Bool := c == 10 || c0p c || (decide (32 ≤ c) && decide (c ≤ 126))
def bt (s : ByteArray) (k : Nat) : Int := if h : k < s.size then (s[k].toNat : Int) else 0
theorem l0e {s : ByteArray} {k : Nat} (h : k < s.size) : bt s k = (s[k].toNat : Int) := by unfold bt; rw [dif_pos h]
theorem o1i (c : UInt8) : (0 : Int) ≤ (c.toNat : Int) ∧ (c.toNat : Int) ≤ 255 := by have := c.toNat_lt; omega
def scan (p : Nat → Bool) (to i : Nat) : Nat := if i < to then (if p i then i else scan p to (i + 1)) else i
 termination_by to - i
theorem e0w {p : Nat → Bool} {to i : Nat} (h : ¬ i < to) : scan p to i = i := by rw [scan, if_neg h]
theorem h0h {p : Nat → Bool} {to i : Nat} (h : i < to) (hp : p i = true) : scan p to i = i := by rw [scan, if_pos h, if_pos hp]
theorem f0f {p : Nat → Bool} {to i : Nat} (h : i < to) (hp : p i = false) : scan p to i = scan p to (i + 1) := by rw [scan, if_pos h, if_neg (by simp [hp])]
theorem j0j (p : Nat → Bool) (to : Nat) : ∀ (n i : Nat), to - i = n → i ≤ scan p to i ∧ (i ≤ to → scan p to i ≤ to) := by
 intro n
 induction n with
 | zero => intro i h; rw [e0w (by omega)]; exact ⟨Nat.le_refl _, fun h => h⟩
 | succ n ih =>
  intro i h
  cases hp : p i
  ·rw [f0f (by omega) hp]
   obtain ⟨h1, h2⟩ := ih (i + 1) (by omega)
   exact ⟨by omega, fun _ => h2 (by omega)⟩
  ·rw [h0h (by omega) hp]; exact ⟨Nat.le_refl _, fun h => h⟩
theorem c1u (p : Nat → Bool) (to : Nat) : ∀ (n i : Nat), to - i = n → (∀ j, i ≤ j → j < scan p to i → p j = false) ∧ (scan p to i < to → p (scan p to i) = true) := by
 intro n
 induction n with
 | zero => intro i h; rw [e0w (by omega)]; exact ⟨fun j h1 h2 => by omega, fun h => by omega⟩
 | succ n ih =>
  intro i h
  cases hp : p i
  ·rw [f0f (by omega) hp]
   obtain ⟨h1, h2⟩ := ih (i + 1) (by omega)
   refine ⟨fun j h3 h4 => ?_, h2⟩
   by_cases e : j = i
   ·subst e; exact hp
   ·exact h1 j (by omega) h4
  ·rw [h0h (by omega) hp]; exact ⟨fun j h1 h2 => by omega, fun _ => hp⟩
def back (p : Nat → Bool) (a t : Nat) : Nat := if a < t then (if p (t - 1) then back p a (t - 1) else t) else t
 termination_by t
theorem j0e {p : Nat → Bool} {a t : Nat} (h : ¬ a < t) : back p a t = t := by rw [back, if_neg h]
theorem s0l {p : Nat → Bool} {a t : Nat} (h : a < t) (hp : p (t - 1) = true) : back p a t = back p a (t - 1) := by rw [back, if_pos h, if_pos hp]
theorem q0c {p : Nat → Bool} {a t : Nat} (h : a < t) (hp : p (t - 1) = false) : back p a t = t := by rw [back, if_pos h, if_neg (by simp [hp])]
theorem o1k (p : Nat → Bool) (a : Nat) : ∀ t, a ≤ t → a ≤ back p a t ∧ back p a t ≤ t := by
 intro t
 induction t with
 | zero => intro h; rw [j0e (by omega)]; exact ⟨h, Nat.le_refl _⟩
 | succ t ih =>
  intro h
  by_cases hlt : a < t + 1
  ·cases hp : p t
   ·rw [q0c hlt hp]; exact ⟨h, Nat.le_refl _⟩
   ·rw [s0l hlt hp]
    have := ih (by omega)
    simp only [Nat.add_sub_cancel]
    omega
  ·rw [j0e hlt]; exact ⟨h, Nat.le_refl _⟩
def badB (s : ByteArray) (k : Nat) : Bool := !okB (bt s k)
def f0i (s : ByteArray) : Int × Int :=
 if 16384 < s.size then (2, 0) else if scan (badB s) s.size 0 < s.size then (100, (scan (badB s) s.size 0 : Nat)) else (0, 0)
def k0e (s : ByteArray) (k : Nat) : Bool := bt s k == 47 && bt s (k + 1) == 47
def cutF (s : ByteArray) (from_ to : Nat) : Nat := if scan (k0e s) (to - 1) from_ + 1 < to then scan (k0e s) (to - 1) from_ else to
def j0z (s : ByteArray) (k : Nat) : Bool := !c0p (bt s k)
def c0j (s : ByteArray) (from_ to : Nat) : Nat := scan (j0z s) (cutF s from_ to) from_
def c0q (s : ByteArray) (from_ to : Nat) : Nat := back (fun k => c0p (bt s k)) (c0j s from_ to) (cutF s from_ to)
def nlB (s : ByteArray) (k : Nat) : Bool := bt s k == 10
def h0j (s : ByteArray) (from_ : Nat) (acc : List (Nat × Nat)) : List (Nat × Nat) :=
 if h : from_ ≤ s.size then
  have : s.size + 1 - (scan (nlB s) s.size from_ + 1) < s.size + 1 - from_ := by
   have := (j0j (nlB s) s.size _ from_ rfl).1
   omega
  h0j s (scan (nlB s) s.size from_ + 1)
   (if c0j s from_ (scan (nlB s) s.size from_) < c0q s from_ (scan (nlB s) s.size from_) then acc ++ [(c0j s from_ (scan (nlB s) s.size from_), c0q s from_ (scan (nlB s) s.size from_))] else acc)
 else acc
 termination_by s.size + 1 - from_
theorem k0u {s : ByteArray} {f : Nat} {acc : List (Nat × Nat)} (h : f ≤ s.size) : h0j s f acc = h0j s (scan (nlB s) s.size f + 1)
      (if c0j s f (scan (nlB s) s.size f) < c0q s f (scan (nlB s) s.size f) then acc ++ [(c0j s f (scan (nlB s) s.size f), c0q s f (scan (nlB s) s.size f))] else acc) := by rw [h0j, dif_pos h]
theorem k0f {s : ByteArray} {f : Nat} {acc : List (Nat × Nat)} (h : ¬ f ≤ s.size) : h0j s f acc = acc := by rw [h0j, dif_neg h]
theorem m0w (s : ByteArray) (f t : Nat) (h : f ≤ t) : f ≤ cutF s f t ∧ cutF s f t ≤ t := by
 unfold cutF
 have := j0j (k0e s) (t - 1) _ f rfl
 split <;> omega
theorem s0c (s : ByteArray) (f t : Nat) (h : f ≤ t) : f ≤ c0j s f t ∧ c0j s f t ≤ cutF s f t := by
 have h1 := m0w s f t h
 have h2 := j0j (j0z s) (cutF s f t) _ f rfl
 exact ⟨h2.1, h2.2 h1.1⟩
theorem n0w (s : ByteArray) (f t : Nat) (h : f ≤ t) : c0j s f t ≤ c0q s f t ∧ c0q s f t ≤ t := by
 have h1 := m0w s f t h
 have h2 := s0c s f t h
 have h3 := o1k (fun k => c0p (bt s k)) (c0j s f t) (cutF s f t) h2.2
 exact ⟨h3.1, by unfold c0q; omega⟩
end
section
open Go.RowKit
theorem b0w (c : Int) (w : World) : Calls Tryz.prog 84 #[.int .u8 c] w fun e w' => e = .returned (.bool (c0p c)) ∧ w = w' := by
 have H := h_ (show c0p c = (c == 32 || c == 9 || c == 13) from rfl)
 cases h1 : c == 32 <;> cases h2 : c == 9 <;> cases h3 : c == 13
 all_goals
  go_enter Tryz.func84, Tryz.ntmps84
  go_wp2
  go_ret
  exact ⟨a0l (by rw [H.out, h1, h2, h3]; rfl), rfl⟩
theorem i0x (c : Int) (w : World) : Calls Tryz.prog 125 #[.int .u8 c] w fun e w' => e = .returned (.bool (f0y c)) ∧ w = w' := by
 have H := h_ (show f0y c = (decide (48 ≤ c) && decide (c ≤ 57)) from rfl)
 by_cases h1 : c < 48
 ·go_enter Tryz.func125, Tryz.ntmps125
  go_wp2
  go_ret
  exact ⟨a0l (by rw [H.out]; simp; omega), rfl⟩
 by_cases h2 : 57 < c
 ·have h1' : 48 ≤ c := by omega
  clear h1
  go_enter Tryz.func125, Tryz.ntmps125
  go_wp2
  go_ret
  exact ⟨a0l (by rw [H.out]; simp; omega), rfl⟩
 ·have h1' : 48 ≤ c := by omega
  have h2' : c ≤ 57 := by omega
  clear h1 h2
  go_enter Tryz.func125, Tryz.ntmps125
  go_wp2
  go_ret
  exact ⟨a0l (by rw [H.out]; simp; omega), rfl⟩
theorem g0h (c : Int) (w : World) : Calls Tryz.prog 121 #[.int .u8 c] w fun e w' => e = .returned (.bool (e0x c)) ∧ w = w' := by
 have H := h_ (show e0x c = ((decide (97 ≤ c) && decide (c ≤ 122)) || (decide (65 ≤ c) && decide (c ≤ 90)) || c == 95 || (decide (48 ≤ c) && decide (c ≤ 57))) from rfl)
 have hall : (c < 48) ∨ (48 ≤ c ∧ c ≤ 57) ∨ (58 ≤ c ∧ c ≤ 64) ∨ (65 ≤ c ∧ c ≤ 90) ∨ (91 ≤ c ∧ c ≤ 94) ∨ (c = 95) ∨ (c = 96) ∨ (97 ≤ c ∧ c ≤ 122) ∨ (123 ≤ c) := by omega
 rcases hall with h1 | ⟨h1, h2⟩ | ⟨h1, h2⟩ | ⟨h1, h2⟩ | ⟨h1, h2⟩ | rfl | rfl | ⟨h1, h2⟩ | h1
 all_goals
  try have n95 : (c == 95) = false := beq_eq_false_iff_ne.2 (by omega)
  go_enter Tryz.func121, Tryz.ntmps121
  go_wp2_with (go_at_call 125; refine (i0x _ _).mono ?_; rintro e w' ⟨rfl, rfl⟩)
  go_ret
  exact ⟨a0l (by rw [H.out]; first | rfl | ((try unfold f0y); rw [Bool.eq_iff_iff]; simp; omega) | ((try unfold f0y); simp; omega) | ((try unfold f0y); simp)), rfl⟩
end
section
open Go.RowKit
def k0a (s : ByteArray) (k : Nat) : Bool := !e0x (bt s k)
def c0t (s : ByteArray) (i : Nat) : Nat := scan (k0a s) s.size i
theorem g1p (s : ByteArray) (i : Nat) : i ≤ c0t s i ∧ (i ≤ s.size → c0t s i ≤ s.size) := j0j _ _ _ _ rfl
end
section
open Go.RowKit
theorem s0t {s : ByteArray} {k : Nat} (h : k + 2 ≤ s.size) (x y : UInt8) : ((s.extract k (k + 2)).toList == [x, y]) = (bt s k == (x.toNat : Int) && bt s (k + 1) == (y.toNat : Int)) := by
 have e : (s.extract k (k + 2)).toList = [s[k], s[k + 1]] := by
  rw [e0v]
  apply List.ext_getElem
  ·simp; omega
  ·intro i h1 h2
   match i, h2 with
   | 0, _ => simp; rfl
   | 1, _ => simp; rfl
 rw [e]
 rw [l0e (show k < s.size by omega), l0e (show k + 1 < s.size by omega), Bool.eq_iff_iff]
 have q : ∀ c d : UInt8, c = d ↔ ((c.toNat : Int) = (d.toNat : Int)) := by
  intro c d
  constructor
  ·intro h; rw [h]
  ·intro h
   apply UInt8.toNat_inj.1
   omega
 simp [q]
def c1s (c : Int) : Bool := c == 61 || c == 91 || c == 93 || c == 40 || c == 41 || c == 58 || c == 44 || c == 126
def c1r (t : ByteArray) : Bool := (bt t 0 == 47 && bt t 1 == 92) || (bt t 0 == 92 && bt t 1 == 47)
def i0m (t : ByteArray) : Nat := if 2 ≤ t.size ∧ c1r t = true then 2 else if c1s (bt t 0) = true then 1 else 0
theorem x0g (t : ByteArray) (w : World) (h0 : 0 < t.size) (hs : t.size ≤ 140737488351232) :
  Calls Tryz.prog 124 #[.string t] w fun e w' => e = .returned (.int .i64 (i0m t : Nat)) ∧ w = w' := by
 have H1 := h_ (show c1s (bt t 0) = (bt t 0 == 61 || bt t 0 == 91 || bt t 0 == 93 || bt t 0 == 40 || bt t 0 == 41 || bt t 0 == 58 || bt t 0 == 44 || bt t 0 == 126) from rfl)
 have HB := h_ (l0e h0)
 have HD := h_ (show i0m t = if 2 ≤ t.size ∧ c1r t = true then 2 else if c1s (bt t 0) = true then 1 else 0 from rfl)
 by_cases h2 : 2 ≤ t.size
 ·have HA := h_ (s0t (s := t) (k := 0) h2 47 92)
  have HC := h_ (s0t (s := t) (k := 0) h2 92 47)
  have h2' : (2 : Int) ≤ t.size := by omega
  cases ea : ((t.extract 0 2).toList == [47, 92])
  ·cases eb : ((t.extract 0 2).toList == [92, 47])
   ·have HX := h_ (show i0m t = if c1s (bt t 0) = true then 1 else 0 from by
     rw [HD.out, if_neg]
     rintro ⟨_, h⟩
     have a1 := HA.out.symm.trans ea
     have a2 := HC.out.symm.trans eb
     unfold c1r at h
     simp only [Nat.zero_add] at a1 a2
     rw [show ((47 : UInt8).toNat : Int) = 47 from rfl, show ((92 : UInt8).toNat : Int) = 92 from rfl] at a1 a2
     rw [a1, a2] at h; cases h)
    clear HA HC HD
    go_enter Tryz.func124, Tryz.ntmps124
    go_wp2_with fail
    all_goals
     go_ret
     refine ⟨?_, rfl⟩
     rw [HX.out, H1.out, HB.out]
     simp_all
   ·have HX := h_ (show i0m t = 2 from by
     rw [HD.out, if_pos]
     refine ⟨h2, ?_⟩
     have a2 := HC.out.symm.trans eb
     unfold c1r
     simp only [Nat.zero_add] at a2
     rw [show ((47 : UInt8).toNat : Int) = 47 from rfl, show ((92 : UInt8).toNat : Int) = 92 from rfl] at a2
     rw [a2, Bool.or_true])
    clear HA HC HD
    go_enter Tryz.func124, Tryz.ntmps124
    go_wp2
    go_ret
    exact ⟨by rw [HX.out]; rfl, rfl⟩
  ·have HX := h_ (show i0m t = 2 from by
    rw [HD.out, if_pos]
    refine ⟨h2, ?_⟩
    have a2 := HA.out.symm.trans ea
    unfold c1r
    simp only [Nat.zero_add] at a2
    rw [show ((47 : UInt8).toNat : Int) = 47 from rfl, show ((92 : UInt8).toNat : Int) = 92 from rfl] at a2
    rw [a2, Bool.true_or])
   clear HA HC HD
   go_enter Tryz.func124, Tryz.ntmps124
   go_wp2
   go_ret
   exact ⟨by rw [HX.out]; rfl, rfl⟩
 ·have h2' : (t.size : Int) < 2 := by omega
  have HX := h_ (show i0m t = if c1s (bt t 0) = true then 1 else 0 from by rw [HD.out, if_neg (fun h => h2 h.1)])
  clear HD h2
  go_enter Tryz.func124, Tryz.ntmps124
  go_wp2_with fail
  all_goals
   go_ret
   refine ⟨?_, rfl⟩
   rw [HX.out, H1.out, HB.out]
   simp_all
end
section
open Go.RowKit
end
section
open Go.RowKit
def numE (s : ByteArray) (i n : Nat) : Nat := (b0h (s.extract i n).data.toList).2
def e0g (s : ByteArray) (i : Nat) : Nat × Nat × Nat :=
 if c0p (bt s i) = true then (0, i + 1, 0)
 else if 0 < i0m (s.extract i s.size) then (3, i + i0m (s.extract i s.size), 0)
 else if e0x (bt s i) = false then (9, i, 100)
 else if 24 < c0t s i - i then (9, i, 101)
 else if f0y (bt s i) = true then (if numE s i (c0t s i) = 0 then (2, c0t s i, 0) else (9, i, numE s i (c0t s i)))
 else (1, c0t s i, 0)
def b0j (s : ByteArray) (i : Nat) (acc : List (Nat × Nat × Nat)) : List (Nat × Nat × Nat) × Nat × Nat :=
 if h : i < s.size then
  (if (e0g s i).1 = 9 then ([], (e0g s i).2.2, i)
   else if _h2 : i < (e0g s i).2.1 then b0j s (e0g s i).2.1 (if (e0g s i).1 = 0 then acc else acc ++ [((e0g s i).1, i, (e0g s i).2.1)])
   else ([], 0, 0))
 else (acc ++ [(4, s.size, s.size)], 0, s.size)
 termination_by s.size - i
theorem o0s {s : ByteArray} {i : Nat} {acc : List (Nat × Nat × Nat)} (h : ¬ i < s.size) : b0j s i acc = (acc ++ [(4, s.size, s.size)], 0, s.size) := by rw [b0j, dif_neg h]
theorem c0y {s : ByteArray} {i : Nat} {acc : List (Nat × Nat × Nat)} {c n : Nat} (h : i < s.size) (hs : e0g s i = (9, n, c)) : b0j s i acc = ([], c, i) := by
 rw [b0j, dif_pos h, if_pos (by rw [hs])]; rw [hs]
theorem y0t {s : ByteArray} {i : Nat} {acc : List (Nat × Nat × Nat)} (h : i < s.size) (hb : c0p (bt s i) = true) : b0j s i acc = b0j s (i + 1) acc := by
 have hs : e0g s i = (0, i + 1, 0) := by unfold e0g; rw [if_pos hb]
 rw [b0j, dif_pos h, hs, if_neg (by simp), dif_pos (by simp)]; rfl
theorem c1e {s : ByteArray} {i : Nat} {acc : List (Nat × Nat × Nat)} {k n c : Nat} (h : i < s.size) (hs : e0g s i = (k, n, c)) (hk : k = 1 ∨ k = 2 ∨ k = 3) (hn : i < n) : b0j s i acc = b0j s n (acc ++ [(k, i, n)]) := by
 rw [b0j, dif_pos h, hs, if_neg (by simp; omega), dif_pos hn]
 simp only []
 rw [if_neg (by omega)]
theorem y0z {s : ByteArray} {i : Nat} (hb : c0p (bt s i) = false) (hn : 0 < i0m (s.extract i s.size)) : e0g s i = (3, i + i0m (s.extract i s.size), 0) := by
 unfold e0g; rw [if_neg (by simp [hb]), if_pos hn]
theorem z0a {s : ByteArray} {i : Nat} (hb : c0p (bt s i) = false) (hn : i0m (s.extract i s.size) = 0) (hl : e0x (bt s i) = false) : e0g s i = (9, i, 100) := by
 unfold e0g; rw [if_neg (by simp [hb]), if_neg (by omega), if_pos hl]
theorem q0k {s : ByteArray} {i : Nat} (hb : c0p (bt s i) = false) (hn : i0m (s.extract i s.size) = 0) (hl : e0x (bt s i) = true) (h24 : 24 < c0t s i - i) : e0g s i = (9, i, 101) := by
 unfold e0g; rw [if_neg (by simp [hb]), if_neg (by omega), if_neg (by simp [hl]), if_pos h24]
theorem q0j {s : ByteArray} {i : Nat} (hb : c0p (bt s i) = false) (hn : i0m (s.extract i s.size) = 0) (hl : e0x (bt s i) = true) (h24 : ¬ 24 < c0t s i - i) (hd : f0y (bt s i) = false) : e0g s i = (1, c0t s i, 0) := by
 unfold e0g; rw [if_neg (by simp [hb]), if_neg (by omega), if_neg (by simp [hl]), if_neg h24, if_neg (by simp [hd])]
theorem s0z {s : ByteArray} {i : Nat} (hb : c0p (bt s i) = false) (hn : i0m (s.extract i s.size) = 0) (hl : e0x (bt s i) = true) (h24 : ¬ 24 < c0t s i - i) (hd : f0y (bt s i) = true) (he : numE s i (c0t s i) = 0) : e0g s i = (2, c0t s i, 0) := by
 unfold e0g; rw [if_neg (by simp [hb]), if_neg (by omega), if_neg (by simp [hl]), if_neg h24, if_pos hd, if_pos he]
theorem t0a {s : ByteArray} {i : Nat} (hb : c0p (bt s i) = false) (hn : i0m (s.extract i s.size) = 0) (hl : e0x (bt s i) = true) (h24 : ¬ 24 < c0t s i - i) (hd : f0y (bt s i) = true) (he : numE s i (c0t s i) ≠ 0) : e0g s i = (9, i, numE s i (c0t s i)) := by
 unfold e0g; rw [if_neg (by simp [hb]), if_neg (by omega), if_neg (by simp [hl]), if_neg h24, if_pos hd, if_neg he]
theorem x0c {s : ByteArray} {i : Nat} (h : i < s.size) (hl : e0x (bt s i) = true) : i < c0t s i := by
 unfold c0t
 rw [f0f h (by unfold k0a; rw [hl]; rfl)]
 exact (j0j (k0a s) s.size _ (i + 1) rfl).1
theorem g1y {t : ByteArray} (h : 0 < t.size) : i0m t ≤ t.size := by
 unfold i0m
 split
 ·omega
 ·split <;> omega
def h0g (s : ByteArray) (at_ : Nat) (l : List (Nat × Nat × Nat)) : List Value := l.flatMap fun r => [.int .i64 (r.1 : Nat), .string (s.extract r.2.1 r.2.2), .int .i64 ((at_ : Int) + (r.2.1 : Nat))]
theorem l0q (s : ByteArray) (at_ : Nat) (l : List (Nat × Nat × Nat)) (k a e : Nat) : h0g s at_ (l ++ [(k, a, e)]) = h0g s at_ l ++ [.int .i64 (k : Nat), .string (s.extract a e), .int .i64 ((at_ : Int) + (a : Nat))] := by simp [h0g]
def g0r (at_ : Nat) (r : List (Nat × Nat × Nat) × Nat × Nat) : Int := if r.2.1 = 0 then 0 else (at_ : Int) + (r.2.2 : Nat)
theorem u0c (s : ByteArray) : s.extract s.size s.size = ByteArray.empty := by simp
end
section
open Go.RowKit
theorem e0m (c : Int) (w : World) (hc : 0 ≤ c ∧ c ≤ 255) :
  Calls Tryz.prog 148 #[.int .u8 c] w fun e w' => e = .returned (.int .u64 (digN c.toNat)) ∧ w = w' := by
 obtain ⟨n, rfl⟩ := Int.eq_ofNat_of_zero_le hc.1
 have H : Hid (digN n = if 48 ≤ n ∧ n ≤ 57 then n - 48 else if 97 ≤ n ∧ n ≤ 102 then n - 97 + 10 else if 65 ≤ n ∧ n ≤ 70 then n - 65 + 10 else 99) := rfl
 rw [Int.toNat_natCast]
 by_cases h1 : 48 ≤ n <;> by_cases h2 : n ≤ 57 <;> by_cases h3 : 97 ≤ n <;> by_cases h4 : n ≤ 102 <;> by_cases h5 : 65 ≤ n <;> by_cases h6 : n ≤ 70 <;> first
  | (exfalso; omega)
  | (go_enter Tryz.func148, Tryz.ntmps148
     go_wp2
     go_ret
     refine ⟨b0u ?_, rfl⟩
     rw [H.out]
     simp [h1, h2, h3, h4, h5, h6]
     try omega)
theorem e1h (s : ByteArray) (w : World) (hs : s.size ≤ maxLen) (hh : m0b s.data.toList = true) :
  Calls Tryz.prog 126 #[.string s] w fun e w' => e = .returned (.tuple #[.int .u64 (b0h s.data.toList).1, .int .i64 (b0h s.data.toList).2]) ∧ ∃ m, w' = w.drewN m := by
 unfold maxLen at hs
 have HT0 : Hid (b0h s.data.toList = g0a 16 (s.data.toList.drop 2)) := by
  show _ = _; unfold b0h; rw [if_pos hh]
 obtain ⟨h2, a0, a1, a2, a3, a4, a5, a6⟩ := w0c s hh
 have HA5 := h_ a5
 have HZ := h_ a6
 clear hh a5 a6
 go_enter Tryz.func126, Tryz.ntmps126
 go_wp2_with fail
 generalize s.extract 2 s.size = t at *
 rw [HZ.out]
 have HT : Hid (b0h s.data.toList = g0a 16 t.data.toList) := by
  show _ = _; rw [HA5.out]; exact HT0.out
 have h0 := a3
 go_loop [28] (fun i => ∃ k : Nat, k ≤ t.size ∧ i = .int .i64 k ∧ k0p 16 t.data.toList k = true) (fun i => t.size - (intOf i).toNat)
 case atStart => exact ⟨0, Nat.zero_le _, rfl, j0r _ _⟩
 case round =>
  obtain ⟨k, hk, rfl, hg⟩ := hrel
  have HG := h_ hg
  clear hg
  by_cases hlt : k < t.size
  ·have h255 := UInt8.toNat_lt t[k]
   by_cases hd : digN t[k].toNat < 16
   ·go_wp2_with (go_at_call 148; refine (e0m _ _ (by omega)).mono ?_; rintro e w' ⟨rfl, rfl⟩)
    go_round
    case rel => exact ⟨k + 1, by omega, by go_num, j0s _ t k hlt HG.out hd⟩
    case measure => simp [intOf]; omega
   ·have HB := h_ (s0k _ t k hlt hd)
    go_wp2_with (go_at_call 148; refine (e0m _ _ (by omega)).mono ?_; rintro e w' ⟨rfl, rfl⟩)
    go_ret2
    exact ⟨by rw [HT.out, HB.out]; rfl, 0, rfl⟩
  ·obtain rfl : k = t.size := by omega
   have HA := h_ (k0x _ t HG.out)
   clear hlt hk HG
   go_wp2_with fail
   go_loop [40, 6] (fun i n => ∃ k : Nat, k ≤ t.size ∧ i = .int .i64 k ∧ e0t 16 (t.data.toList.take k) < 18446744073709551616 ∧ n = .int .u64 (e0t 16 (t.data.toList.take k))) (fun i _ => t.size - (intOf i).toNat)
   case atStart => exact ⟨0, Nat.zero_le _, rfl, by simp [e0t], rfl⟩
   case round =>
    obtain ⟨k, hk, rfl, hf, rfl⟩ := hrel
    by_cases hlt : k < t.size
    ·have h255 := UInt8.toNat_lt t[k]
     have hd := p0l _ t k hlt HA.out
     have HF := h_ (k0y 16 t k hlt)
     have HB := h_ (l0y 16 (by decide) t k hlt HA.out)
     go_wp2_with (go_at_call 148; refine (e0m _ _ (by omega)).mono ?_; rintro e w' ⟨rfl, rfl⟩)
     ·have hbig : (18446744073709551615 - (digN t[k].toNat : Int)) / 16 < (e0t 16 (t.data.toList.take k) : Int) := by assumption
      go_ret2
      exact ⟨by rw [HT.out, HB.out (by rw [HF.out]; omega)]; rfl, 0, rfl⟩
     ·have hok : (e0t 16 (t.data.toList.take k) : Int) ≤ (18446744073709551615 - (digN t[k].toNat : Int)) / 16 := by assumption
      go_round
      case rel => exact ⟨k + 1, by omega, by go_num, by rw [HF.out]; omega, by rw [HF.out]; go_num⟩
      case measure => simp [intOf]; omega
    ·obtain rfl : k = t.size := by omega
     have HP := h_ (n0x _ t h0 HA.out hf)
     clear hlt hk
     go_wp2
     go_ret2
     exact ⟨by rw [HT.out, HP.out]; rfl, 0, rfl⟩
theorem z0s (t : ByteArray) (w : World) (hs : t.size ≤ maxLen) (hh : m0b t.data.toList = false) (h0 : 0 < t.size) (h2 : 2 < t.size) (c0 : ((t[0].toNat : Int) == 48) = false) :
  Calls Tryz.prog 126 #[.string t] w fun e w' => e = .returned (.tuple #[.int .u64 (b0h t.data.toList).1, .int .i64 (b0h t.data.toList).2]) ∧ ∃ m, w' = w.drewN m := by
 unfold maxLen at hs
 have HT : Hid (b0h t.data.toList = g0a 10 t.data.toList) := by
  show _ = _; unfold b0h; rw [hh]; rfl
 have he : t.toList.isEmpty = false := r0x t h0
 clear hh
 go_enter Tryz.func126, Tryz.ntmps126
 go_wp2_with fail
 go_loop [28] (fun i => ∃ k : Nat, k ≤ t.size ∧ i = .int .i64 k ∧ k0p 10 t.data.toList k = true) (fun i => t.size - (intOf i).toNat)
 case atStart => exact ⟨0, Nat.zero_le _, rfl, j0r _ _⟩
 case round =>
  obtain ⟨k, hk, rfl, hg⟩ := hrel
  have HG := h_ hg
  clear hg
  by_cases hlt : k < t.size
  ·have h255 := UInt8.toNat_lt t[k]
   by_cases hd : digN t[k].toNat < 10
   ·go_wp2_with (go_at_call 148; refine (e0m _ _ (by omega)).mono ?_; rintro e w' ⟨rfl, rfl⟩)
    go_round
    case rel => exact ⟨k + 1, by omega, by go_num, j0s _ t k hlt HG.out hd⟩
    case measure => simp [intOf]; omega
   ·have HB := h_ (s0k _ t k hlt hd)
    go_wp2_with (go_at_call 148; refine (e0m _ _ (by omega)).mono ?_; rintro e w' ⟨rfl, rfl⟩)
    go_ret2
    exact ⟨by rw [HT.out, HB.out]; rfl, 0, rfl⟩
  ·obtain rfl : k = t.size := by omega
   have HA := h_ (k0x _ t HG.out)
   clear hlt hk HG
   go_wp2_with fail
   go_loop [40, 6] (fun i n => ∃ k : Nat, k ≤ t.size ∧ i = .int .i64 k ∧ e0t 10 (t.data.toList.take k) < 18446744073709551616 ∧ n = .int .u64 (e0t 10 (t.data.toList.take k))) (fun i _ => t.size - (intOf i).toNat)
   case atStart => exact ⟨0, Nat.zero_le _, rfl, by simp [e0t], rfl⟩
   case round =>
    obtain ⟨k, hk, rfl, hf, rfl⟩ := hrel
    by_cases hlt : k < t.size
    ·have h255 := UInt8.toNat_lt t[k]
     have hd := p0l _ t k hlt HA.out
     have HF := h_ (k0y 10 t k hlt)
     have HB := h_ (l0y 10 (by decide) t k hlt HA.out)
     go_wp2_with (go_at_call 148; refine (e0m _ _ (by omega)).mono ?_; rintro e w' ⟨rfl, rfl⟩)
     ·have hbig : (18446744073709551615 - (digN t[k].toNat : Int)) / 10 < (e0t 10 (t.data.toList.take k) : Int) := by assumption
      go_ret2
      exact ⟨by rw [HT.out, HB.out (by rw [HF.out]; omega)]; rfl, 0, rfl⟩
     ·have hok : (e0t 10 (t.data.toList.take k) : Int) ≤ (18446744073709551615 - (digN t[k].toNat : Int)) / 10 := by assumption
      go_round
      case rel => exact ⟨k + 1, by omega, by go_num, by rw [HF.out]; omega, by rw [HF.out]; go_num⟩
      case measure => simp [intOf]; omega
    ·obtain rfl : k = t.size := by omega
     have HP := h_ (n0x _ t h0 HA.out hf)
     clear hlt hk
     go_wp2
     go_ret2
     exact ⟨by rw [HT.out, HP.out]; rfl, 0, rfl⟩
theorem z0r (t : ByteArray) (w : World) (hs : t.size ≤ maxLen) (hh : m0b t.data.toList = false) (h0 : 0 < t.size) (h2 : 2 < t.size) (c0 : ((t[0].toNat : Int) == 48) = true) (c1 : ((t[1].toNat : Int) == 120) = false) :
  Calls Tryz.prog 126 #[.string t] w fun e w' => e = .returned (.tuple #[.int .u64 (b0h t.data.toList).1, .int .i64 (b0h t.data.toList).2]) ∧ ∃ m, w' = w.drewN m := by
 unfold maxLen at hs
 have HT : Hid (b0h t.data.toList = g0a 10 t.data.toList) := by
  show _ = _; unfold b0h; rw [hh]; rfl
 have he : t.toList.isEmpty = false := r0x t h0
 clear hh
 go_enter Tryz.func126, Tryz.ntmps126
 go_wp2_with fail
 go_loop [28] (fun i => ∃ k : Nat, k ≤ t.size ∧ i = .int .i64 k ∧ k0p 10 t.data.toList k = true) (fun i => t.size - (intOf i).toNat)
 case atStart => exact ⟨0, Nat.zero_le _, rfl, j0r _ _⟩
 case round =>
  obtain ⟨k, hk, rfl, hg⟩ := hrel
  have HG := h_ hg
  clear hg
  by_cases hlt : k < t.size
  ·have h255 := UInt8.toNat_lt t[k]
   by_cases hd : digN t[k].toNat < 10
   ·go_wp2_with (go_at_call 148; refine (e0m _ _ (by omega)).mono ?_; rintro e w' ⟨rfl, rfl⟩)
    go_round
    case rel => exact ⟨k + 1, by omega, by go_num, j0s _ t k hlt HG.out hd⟩
    case measure => simp [intOf]; omega
   ·have HB := h_ (s0k _ t k hlt hd)
    go_wp2_with (go_at_call 148; refine (e0m _ _ (by omega)).mono ?_; rintro e w' ⟨rfl, rfl⟩)
    go_ret2
    exact ⟨by rw [HT.out, HB.out]; rfl, 0, rfl⟩
  ·obtain rfl : k = t.size := by omega
   have HA := h_ (k0x _ t HG.out)
   clear hlt hk HG
   go_wp2_with fail
   go_loop [40, 6] (fun i n => ∃ k : Nat, k ≤ t.size ∧ i = .int .i64 k ∧ e0t 10 (t.data.toList.take k) < 18446744073709551616 ∧ n = .int .u64 (e0t 10 (t.data.toList.take k))) (fun i _ => t.size - (intOf i).toNat)
   case atStart => exact ⟨0, Nat.zero_le _, rfl, by simp [e0t], rfl⟩
   case round =>
    obtain ⟨k, hk, rfl, hf, rfl⟩ := hrel
    by_cases hlt : k < t.size
    ·have h255 := UInt8.toNat_lt t[k]
     have hd := p0l _ t k hlt HA.out
     have HF := h_ (k0y 10 t k hlt)
     have HB := h_ (l0y 10 (by decide) t k hlt HA.out)
     go_wp2_with (go_at_call 148; refine (e0m _ _ (by omega)).mono ?_; rintro e w' ⟨rfl, rfl⟩)
     ·have hbig : (18446744073709551615 - (digN t[k].toNat : Int)) / 10 < (e0t 10 (t.data.toList.take k) : Int) := by assumption
      go_ret2
      exact ⟨by rw [HT.out, HB.out (by rw [HF.out]; omega)]; rfl, 0, rfl⟩
     ·have hok : (e0t 10 (t.data.toList.take k) : Int) ≤ (18446744073709551615 - (digN t[k].toNat : Int)) / 10 := by assumption
      go_round
      case rel => exact ⟨k + 1, by omega, by go_num, by rw [HF.out]; omega, by rw [HF.out]; go_num⟩
      case measure => simp [intOf]; omega
    ·obtain rfl : k = t.size := by omega
     have HP := h_ (n0x _ t h0 HA.out hf)
     clear hlt hk
     go_wp2
     go_ret2
     exact ⟨by rw [HT.out, HP.out]; rfl, 0, rfl⟩
theorem z0q (t : ByteArray) (w : World) (hs : t.size ≤ maxLen) (hh : m0b t.data.toList = false) (h0 : 0 < t.size) (h2 : ¬ 2 < t.size) :
  Calls Tryz.prog 126 #[.string t] w fun e w' => e = .returned (.tuple #[.int .u64 (b0h t.data.toList).1, .int .i64 (b0h t.data.toList).2]) ∧ ∃ m, w' = w.drewN m := by
 unfold maxLen at hs
 have HT : Hid (b0h t.data.toList = g0a 10 t.data.toList) := by
  show _ = _; unfold b0h; rw [hh]; rfl
 have he : t.toList.isEmpty = false := r0x t h0
 clear hh
 go_enter Tryz.func126, Tryz.ntmps126
 go_wp2_with fail
 go_loop [28] (fun i => ∃ k : Nat, k ≤ t.size ∧ i = .int .i64 k ∧ k0p 10 t.data.toList k = true) (fun i => t.size - (intOf i).toNat)
 case atStart => exact ⟨0, Nat.zero_le _, rfl, j0r _ _⟩
 case round =>
  obtain ⟨k, hk, rfl, hg⟩ := hrel
  have HG := h_ hg
  clear hg
  by_cases hlt : k < t.size
  ·have h255 := UInt8.toNat_lt t[k]
   by_cases hd : digN t[k].toNat < 10
   ·go_wp2_with (go_at_call 148; refine (e0m _ _ (by omega)).mono ?_; rintro e w' ⟨rfl, rfl⟩)
    go_round
    case rel => exact ⟨k + 1, by omega, by go_num, j0s _ t k hlt HG.out hd⟩
    case measure => simp [intOf]; omega
   ·have HB := h_ (s0k _ t k hlt hd)
    go_wp2_with (go_at_call 148; refine (e0m _ _ (by omega)).mono ?_; rintro e w' ⟨rfl, rfl⟩)
    go_ret2
    exact ⟨by rw [HT.out, HB.out]; rfl, 0, rfl⟩
  ·obtain rfl : k = t.size := by omega
   have HA := h_ (k0x _ t HG.out)
   clear hlt hk HG
   go_wp2_with fail
   go_loop [40, 6] (fun i n => ∃ k : Nat, k ≤ t.size ∧ i = .int .i64 k ∧ e0t 10 (t.data.toList.take k) < 18446744073709551616 ∧ n = .int .u64 (e0t 10 (t.data.toList.take k))) (fun i _ => t.size - (intOf i).toNat)
   case atStart => exact ⟨0, Nat.zero_le _, rfl, by simp [e0t], rfl⟩
   case round =>
    obtain ⟨k, hk, rfl, hf, rfl⟩ := hrel
    by_cases hlt : k < t.size
    ·have h255 := UInt8.toNat_lt t[k]
     have hd := p0l _ t k hlt HA.out
     have HF := h_ (k0y 10 t k hlt)
     have HB := h_ (l0y 10 (by decide) t k hlt HA.out)
     go_wp2_with (go_at_call 148; refine (e0m _ _ (by omega)).mono ?_; rintro e w' ⟨rfl, rfl⟩)
     ·have hbig : (18446744073709551615 - (digN t[k].toNat : Int)) / 10 < (e0t 10 (t.data.toList.take k) : Int) := by assumption
      go_ret2
      exact ⟨by rw [HT.out, HB.out (by rw [HF.out]; omega)]; rfl, 0, rfl⟩
     ·have hok : (e0t 10 (t.data.toList.take k) : Int) ≤ (18446744073709551615 - (digN t[k].toNat : Int)) / 10 := by assumption
      go_round
      case rel => exact ⟨k + 1, by omega, by go_num, by rw [HF.out]; omega, by rw [HF.out]; go_num⟩
      case measure => simp [intOf]; omega
    ·obtain rfl : k = t.size := by omega
     have HP := h_ (n0x _ t h0 HA.out hf)
     clear hlt hk
     go_wp2
     go_ret2
     exact ⟨by rw [HT.out, HP.out]; rfl, 0, rfl⟩
theorem v0r (s : ByteArray) (w : World) (h0 : s.size = 0) :
  Calls Tryz.prog 126 #[.string s] w fun e w' => e = .returned (.tuple #[.int .u64 (b0h s.data.toList).1, .int .i64 (b0h s.data.toList).2]) ∧ ∃ m, w' = w.drewN m := by
 have HT : Hid (b0h s.data.toList = (0, 20)) := by
  have : s.data.toList = [] := List.eq_nil_of_length_eq_zero (by rw [i0u]; exact h0)
  show _ = _; rw [this]; rfl
 have he : s.toList.isEmpty = true := k1f s h0
 have hl : ¬ 2 < s.size := by omega
 clear h0
 go_enter Tryz.func126, Tryz.ntmps126
 go_wp2
 go_ret2
 exact ⟨by rw [HT.out]; rfl, 0, rfl⟩
theorem k0i (s : ByteArray) (w : World) (hs : s.size ≤ maxLen) :
  Calls Tryz.prog 126 #[.string s] w fun e w' => e = .returned (.tuple #[.int .u64 (b0h s.data.toList).1, .int .i64 (b0h s.data.toList).2]) ∧ ∃ m, w' = w.drewN m := by
 cases hh : m0b s.data.toList
 ·by_cases h0 : s.size = 0
  ·exact v0r s w h0
  ·by_cases h2 : 2 < s.size
   ·rcases p0d s hh h2 with h | ⟨h, h'⟩
    ·exact z0s s w hs hh (by omega) h2 h
    ·exact z0r s w hs hh (by omega) h2 h h'
   ·exact z0q s w hs hh (by omega) h2
 ·exact e1h s w hs hh
end
end Go.Proofs.YtmnojnopejhebaaGreat
