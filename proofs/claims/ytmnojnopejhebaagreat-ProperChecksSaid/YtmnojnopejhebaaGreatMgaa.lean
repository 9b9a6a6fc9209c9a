/- A block of cells, known whole. -/
import Derived.WalkKit
import Derived.ProofKit
import Derived.OpenShut
import Derived.Lib.Hide
import Derived.Deep.QuietTactic
import Derived.BigQuiet
import Derived.WalkSpells
import Derived.WalkLawsBesides
import Derived.Below
import Derived.ChangeSame
import Derived.ArgAppend
import Derived.StillTailTactics
import Derived.Lib.SlBytesConst
import Derived.Test.YtmnojnopejhebaaGreatRows
import Derived.Laws.Rows
namespace Go.Proofs.YtmnojnopejhebaaGreat
set_option linter.unusedVariables false
set_option linter.unusedSimpArgs false
set_option maxRecDepth 100000
set_option maxHeartbeats 25600000
theorem h_ {p : Prop} (h : p) : RowKit.Hid p := Lib.hid h
theorem gz_ {α : Type} {a : α} {l : List α} : (a :: l)[0]? = some a := rfl
theorem gs_ {α : Type} {a : α} {l : List α} {n : Nat} : (a :: l)[n + 1]? = l[n]? := rfl
section
open Go.RowKit Go.WideShapes Go.ChangeShapes
theorem b0u {k : IntKind} {a b : Int} (h : a = b) : Ending.returned (.int k a) = .returned (.int k b) := by rw [h]
theorem a0l {a b : Bool} (h : a = b) : Ending.returned (.bool a) = .returned (.bool b) := by rw [h]
theorem o0y {a b : Value} (h : a = b) : Ending.returned a = .returned b := by rw [h]
theorem quiet_of {P : Program} {f : FuncId} {args : Array Value} {w : World} {n : Nat} {v : Value}
  (h : Calls P f args (w.drewN n) fun e w' => e = .returned v ∧ ∃ m, w' = (w.drewN n).drewN m) : Calls P f args (w.drewN n) fun e w'' => e = .returned v ∧ ∃ m, w'' = w.drewN m :=
 h.mono fun _ _ ⟨he, m, hm⟩ => ⟨he, n + m, by rw [hm, World.drewN_drewN]⟩
theorem d1x {P : Program} {f : FuncId} {args : Array Value} {w : World} {a n : Nat} {v : Value}
  (h : Calls P f args (w.drewN (a + n)) fun e w' => e = .returned v ∧ ∃ m, w' = (w.drewN (a + n)).drewN m) :
  Calls P f args (w.drewN (a + n)) fun e w'' => e = .returned v ∧ ∃ m, w'' = w.drewN (a + m) :=
 h.mono fun _ _ ⟨he, m, hm⟩ => ⟨he, n + m, by rw [hm, World.drewN_drewN, Nat.add_assoc]⟩
theorem g0e {P : Program} {id : Nat} {Q : Exit → Act → World → Prop} {a : Act} {w : World} {l : List Oper} (n : Nat) (hm : P.follows .mixedOrders = true) (hB : Region.lexTailB .any l.toArray n = true)
  (h : wpStill P l.toArray w.drew (fun a' => wpList P l.toArray Q (l.drop n) a' w.drew) (l.take n) a) : (Code.region id l.toArray true).wp P Q a w :=
 wp_region_still_tail n hm hB h
theorem bd_ {B : Nat} {a w : World} (h : Below B a w) (n : Nat) : Below B a (w.drewN n) := ⟨h.os, h.tape, h.output, h.size, h.block⟩
theorem bt_ {a b c : World} (h : Below a.heap.size a b) (k : Below b.heap.size b c) : Below a.heap.size a c := h.trans (k.mono h.size)
theorem bl_ {a b : World} (h : Below a.heap.size a b) (o : Obj) : Below a.heap.size a (b.alloc o) := h.alloc h.size o
theorem below_grown {a b : World} (h : Below a.heap.size a b) (row : Option Nat) : a.grownBy b row := ⟨h.os, h.tape, h.output, h.size, fun i hi _ => h.block i hi⟩
section
variable {H : Type} {enc : TypeId × Value → H} {P : Program}
end
def El (P : Program) (t e : TypeId) (z : Value) (size bytes : Nat) : Prop :=
 P.underlying t = some (.slice e) ∧ (P.info? e).map (fun i => (i.zero, i.size, i.bytes)) = some (some z, size, bytes)
theorem app1 {P : Program} {ops : Array Oper} {rest : List Oper} {o : Oper} {a : Act} {Q : Exit → Act → World → Prop} {wr : World} (hgd : o.guard = none) (s x : Operand) (t : TypeId)
  (ho : o.op = .call { callee := .builtin .append, args := #[s, x], argTypes := #[t, t] })
  (base : Nat) (e : TypeId) (z : Value) (bytes : Nat) (hel : El P t e z 1 bytes) (hzs : z.cells.size = 1)
  (v : Value) (n : Nat) (xs : List Value) (hs : a.eval s = v) (hown : wr.ownsRow base e 1 v n xs)
  (u : Value) (hx : a.eval x = .slice (some ⟨wr.heap.size, 0, none⟩) 1 1) (h1 : u.oneCell' = true)
  (hn : n + 1 ≤ maxLen) (hby : (n + 1) * bytes ≤ 140737488355328) (hbase : base ≤ wr.heap.size)
  (h : ∀ v' w', w'.ownsRow base e 1 v' (n + 1) (xs ++ [u]) → wr.grownBy w' v.ownBlock → Below base wr w' → wpList P ops Q rest (a.put o.dst v') w') :
  wpList P ops Q (o :: rest) a (wr.alloc (.cells #[u] e)) := by
 obtain ⟨ht, hinfo⟩ := hel
 obtain ⟨i, hi, hz0, hz1, hz2⟩ := info_parts hinfo
 refine wpList_append_own (wr.alloc (.cells #[u] e)) hgd s x t ho base e i z 1 bytes ht hi hz0 hz1 hz2 hzs (by decide) v n xs hs (hown.alloc _) ⟨wr.heap.size, 0, none⟩ 1 1 [u] hx rfl ?_ ?_ hn hby (by simp; omega) ?_
 ·intro j u' hj
  match j, hj with
  | 0, hj => simp at hj; subst hj; simp [Addr.add]
  | j + 1, hj => simp at hj
 ·intro u' hu'; simp at hu'; subst hu'; exact h1
 ·intro v' w' hown' hg _
  have hg' : wr.grownBy w' v.ownBlock := ⟨hg.os, hg.tape, hg.output, Nat.le_trans (by simp) hg.size, fun k hk hne => (hg.block k (by simp; omega) hne).trans (Below.heap_alloc wr _ k hk)⟩
  exact h v' w' hown' hg' ((Below.refl base wr).grown hg' hbase (fun k hk => (hown.lt k hk).1))
theorem j1a {w : World} {base : Nat} {e : TypeId} {v : Value} {n : Nat} {xs : List Value} (h : w.ownsRow base e 1 v n xs) (hn : 0 < n) :
  ∃ g cap, v = .slice (some ⟨g, 0, none⟩) n cap ∧ base ≤ g ∧ g < w.heap.size ∧ n ≤ cap ∧ cap ≤ maxLen ∧ (∀ j, j < n → w.cell? ⟨g, j, none⟩ = xs[j]?) ∧ (∀ j, w.frozen? ⟨g, j, none⟩ = false) := by
 have h' := h
 obtain ⟨_, ⟨rfl, rfl⟩ | ⟨g, cap, cur, rfl, hb, hg, hnc, hc, _⟩⟩ := h
 ·omega
 ·exact ⟨g, cap, rfl, hb, (Array.getElem?_eq_some_iff.1 hg).1, hnc, hc, fun j hj => h'.cellAt j (by omega), fun j => h'.frozenAt j⟩
theorem addr_add (g o j : Nat) : (⟨g, o, none⟩ : Addr).add j = ⟨g, o + j, none⟩ := by
 unfold Addr.add; split <;> simp_all
def v0o (w : World) (v : Value) (n : Nat) (xs : List Value) : Prop :=
 xs.length = n ∧ ((v = .slice none 0 0 ∧ n = 0) ∨ ∃ g off cap, v = .slice (some ⟨g, off, none⟩) n cap ∧ n ≤ cap ∧ cap ≤ maxLen ∧ ∀ j, j < n → w.cell? ⟨g, off + j, none⟩ = xs[j]?)
theorem v0m {w : World} {base : Nat} {e : TypeId} {v : Value} {n : Nat} {xs : List Value} (h : w.ownsRow base e 1 v n xs) : v0o w v n xs := by
 have hl := h.1
 rw [Nat.mul_one] at hl
 refine ⟨hl, ?_⟩
 have h' := h
 obtain ⟨_, ⟨rfl, rfl⟩ | ⟨g, cap, cur, rfl, hb, hg, hnc, hc, _⟩⟩ := h
 ·exact .inl ⟨rfl, rfl⟩
 ·exact .inr ⟨g, 0, cap, rfl, hnc, hc, fun j hj => by rw [Nat.zero_add]; exact h'.cellAt j (by omega)⟩
theorem n0k {w : World} {base base' : Nat} {e : TypeId} {size : Nat} {v : Value} {n : Nat} {xs : List Value} (h : w.ownsRow base e size v n xs) (hb : base' ≤ base) : w.ownsRow base' e size v n xs := by
 obtain ⟨h1, h2 | ⟨g, cap, cur, hv, hg, r⟩⟩ := h
 ·exact ⟨h1, .inl h2⟩
 ·exact ⟨h1, .inr ⟨g, cap, cur, hv, by omega, r⟩⟩
def y0c (w : World) (base : Nat) (e : TypeId) (v : Value) (n : Nat) (xs : List Value) : Prop :=
 w.ownsRow base e 1 v n xs ∨ ∃ g off, v = .slice (some ⟨g, off, none⟩) n n ∧ n ≤ maxLen ∧ xs.length = n ∧ ∀ j, j < n → w.cell? ⟨g, off + j, none⟩ = xs[j]?
theorem v0n {w : World} {base : Nat} {e : TypeId} {v : Value} {n : Nat} {xs : List Value} (h : y0c w base e v n xs) : v0o w v n xs := by
 rcases h with h | ⟨g, off, hv, hm, hl, hc⟩
 ·exact v0m h
 ·exact ⟨hl, .inr ⟨g, off, n, hv, Nat.le_refl _, hm, hc⟩⟩
theorem app1w {P : Program} {ops : Array Oper} {rest : List Oper} {o : Oper} {a : Act} {Q : Exit → Act → World → Prop} {wr : World} (hgd : o.guard = none) (s x : Operand) (t : TypeId)
  (ho : o.op = .call { callee := .builtin .append, args := #[s, x], argTypes := #[t, t] })
  (base : Nat) (e : TypeId) (z : Value) (bytes : Nat) (hel : El P t e z 1 bytes) (hzs : z.cells.size = 1)
  (v : Value) (n : Nat) (xs : List Value) (hs : a.eval s = v) (hown : y0c wr base e v n xs)
  (u : Value) (hx : a.eval x = .slice (some ⟨wr.heap.size, 0, none⟩) 1 1) (h1 : u.oneCell' = true)
  (hn : n + 1 ≤ maxLen) (hby : (n + 1) * bytes ≤ 140737488355328) (hbase : base ≤ wr.heap.size)
  (h : ∀ v' w', w'.ownsRow base e 1 v' (n + 1) (xs ++ [u]) → Below base wr w' → wpList P ops Q rest (a.put o.dst v') w') :
  wpList P ops Q (o :: rest) a (wr.alloc (.cells #[u] e)) := by
 rcases hown with hown | ⟨g, off, rfl, hm, hl, hc⟩
 ·exact app1 hgd s x t ho base e z bytes hel hzs v n xs hs hown u hx h1 hn hby hbase (fun v' w' h1 _ h3 => h v' w' h1 h3)
 ·obtain ⟨ht, hinfo⟩ := hel
  obtain ⟨i, hi, hz0, hz1, hz2⟩ := info_parts hinfo
  refine wpList_append_grows (wr.alloc (.cells #[u] e)) hgd s x t ho e i z 1 bytes ht hi hz0 hz1 hz2 hzs (by decide) (some ⟨g, off, none⟩) n n xs hs (fun h => by cases h) (by omega) ?_ ⟨wr.heap.size, 0, none⟩ 1 1 [u] hx rfl ?_ ?_ (by omega) hn hby ?_
  ·intro b hb j u' hj
   cases hb
   have hjn : j < n := by
    rcases Nat.lt_or_ge j xs.length with h | h
    ·omega
    ·rw [List.getElem?_eq_none h] at hj; cases hj
   rw [addr_add]
   have := (hc j hjn).trans hj
   have hlt := World.block_lt_of_cell? wr _ this
   rw [World.cell?_alloc_past _ _ _ hlt]
   exact this
  ·intro j u' hj
   match j, hj with
   | 0, hj => simp at hj; subst hj; simp [Addr.add]
   | j + 1, hj => simp at hj
  ·intro u' hu'; simp at hu'; subst hu'; exact h1
  ·intro v' w' hown' hg
   refine h v' w' (n0k hown' (by simp; omega)) ?_
   exact ((Below.refl base wr).alloc hbase _).grown hg (by simp; omega) (fun k hk => by cases hk)
section
variable {H : Type} {enc : TypeId × Value → H} {P : Program} {w : World} {base : Nat} {spare : Nat → Bool} {held : Bool} {t e : TypeId}
end
theorem f1b {α : Type} {l : List α} (h : l.length = 2) : ∃ a b, l = [a, b] := by
 match l, h with
 | [a, b], _ => exact ⟨a, b, rfl⟩
end
section
open Go.RowKit
def digN (c : Nat) : Nat :=
 if 48 ≤ c ∧ c ≤ 57 then c - 48 else if 97 ≤ c ∧ c ≤ 102 then c - 97 + 10 else if 65 ≤ c ∧ c ≤ 70 then c - 65 + 10 else 99
def e0t (base : Nat) (l : List UInt8) : Nat := l.foldl (fun n c => n * base + digN c.toNat) 0
def g0a (base : Nat) (t : List UInt8) : Nat × Nat :=
 if t = [] then (0, 20) else if t.all (fun c => digN c.toNat < base) then (if e0t base t < 18446744073709551616 then (e0t base t, 0) else (0, 21)) else (0, 20)
def m0b (l : List UInt8) : Bool := decide (2 < l.length ∧ l[0]? = some 48 ∧ l[1]? = some 120)
def b0h (l : List UInt8) : Nat × Nat := if m0b l then g0a 16 (l.drop 2) else g0a 10 l
theorem i0u (s : ByteArray) : s.data.toList.length = s.size := by simp
theorem s0a (s : ByteArray) (h : 0 < s.size) : s.data.toList ≠ [] := by intro e; have h1 := i0u s; rw [e] at h1; simp at h1; omega
theorem s0v (s : ByteArray) (k : Nat) (h : k < s.size) : s.data.toList.take (k + 1) = s.data.toList.take k ++ [s[k]] := by
 rw [List.take_succ_eq_append_getElem (by simpa using h)]; rfl
theorem q0v (b : Nat) (l : List UInt8) (c : UInt8) : e0t b (l ++ [c]) = e0t b l * b + digN c.toNat := by
 unfold e0t; rw [List.foldl_append]; rfl
theorem k0y (b : Nat) (s : ByteArray) (k : Nat) (h : k < s.size) : e0t b (s.data.toList.take (k + 1)) = e0t b (s.data.toList.take k) * b + digN s[k].toNat := by
 rw [s0v s k h, q0v]
theorem j1x (b : Nat) (hb : 1 ≤ b) (l : List UInt8) : ∀ n : Nat, n ≤ l.foldl (fun n c => n * b + digN c.toNat) n := by
 induction l with
 | nil => intro n; exact Nat.le_refl _
 | cons c l ih => intro n; exact Nat.le_trans (show n ≤ n * b + digN c.toNat by have := Nat.mul_le_mul_left n hb; omega) (ih _)
theorem a1q (b : Nat) (hb : 1 ≤ b) (l : List UInt8) (k : Nat) : e0t b (l.take k) ≤ e0t b l := by
 have e : e0t b l = (l.drop k).foldl (fun n c => n * b + digN c.toNat) (e0t b (l.take k)) := by
  unfold e0t; rw [← List.foldl_append, List.take_append_drop]
 rw [e]; exact j1x b hb _ _
def k0p (b : Nat) (l : List UInt8) (k : Nat) : Bool := (l.take k).all (fun c => digN c.toNat < b)
theorem j0r (b : Nat) (l : List UInt8) : k0p b l 0 = true := by simp [k0p]
theorem j0s (b : Nat) (s : ByteArray) (k : Nat) (h : k < s.size) (hg : k0p b s.data.toList k = true) (hd : digN s[k].toNat < b) : k0p b s.data.toList (k + 1) = true := by
 unfold k0p at *; rw [s0v s k h, List.all_append, hg]; simp [hd]
theorem k0x (b : Nat) (s : ByteArray) (hg : k0p b s.data.toList s.size = true) : s.data.toList.all (fun c => digN c.toNat < b) = true := by
 unfold k0p at hg; rwa [List.take_of_length_le (by simp)] at hg
theorem p0l (b : Nat) (s : ByteArray) (k : Nat) (h : k < s.size) (hg : s.data.toList.all (fun c => digN c.toNat < b) = true) : digN s[k].toNat < b := by
 rw [List.all_eq_true] at hg
 have := hg s[k] (by rw [show s[k] = s.data.toList[k]'(by simpa using h) from rfl]; exact List.getElem_mem _)
 simpa using this
theorem s0k (b : Nat) (s : ByteArray) (k : Nat) (h : k < s.size) (hd : ¬ digN s[k].toNat < b) : g0a b s.data.toList = (0, 20) := by
 unfold g0a
 have hne : s.data.toList ≠ [] := s0a s (by omega)
 rw [if_neg hne, if_neg]
 intro hall; exact hd (p0l b s k h hall)
theorem l0y (b : Nat) (hb : 1 ≤ b) (s : ByteArray) (k : Nat) (hk : k < s.size) (hg : s.data.toList.all (fun c => digN c.toNat < b) = true)
  (h : 18446744073709551616 ≤ e0t b (s.data.toList.take (k + 1))) : g0a b s.data.toList = (0, 21) := by
 unfold g0a
 have hne : s.data.toList ≠ [] := s0a s (by omega)
 have := a1q b hb s.data.toList (k + 1)
 rw [if_neg hne, if_pos hg, if_neg (by omega)]
theorem n0x (b : Nat) (s : ByteArray) (hs : 0 < s.size) (hg : s.data.toList.all (fun c => digN c.toNat < b) = true)
  (h : e0t b (s.data.toList.take s.size) < 18446744073709551616) : g0a b s.data.toList = (e0t b (s.data.toList.take s.size), 0) := by
 unfold g0a
 have hne : s.data.toList ≠ [] := s0a s (by omega)
 have e : s.data.toList.take s.size = s.data.toList := List.take_of_length_le (by simp)
 rw [e] at h ⊢
 rw [if_neg hne, if_pos hg, if_pos h]
theorem e0v (s : ByteArray) : s.toList = s.data.toList := by simp [ByteArray.toList_eq]
theorem r0x (s : ByteArray) (h : 0 < s.size) : s.toList.isEmpty = false := by
 have := s0a s h
 rw [e0v]; simpa using this
theorem k1f (s : ByteArray) (h : s.size = 0) : s.toList.isEmpty = true := by
 rw [e0v, List.isEmpty_iff]
 exact List.eq_nil_of_length_eq_zero (by rw [i0u]; exact h)
theorem w0c (s : ByteArray) (h : m0b s.data.toList = true) :
  ∃ h2 : 2 < s.size, ((s[0].toNat : Int) == 48) = true ∧ ((s[1].toNat : Int) == 120) = true ∧ (s.extract 2 s.size).toList.isEmpty = false ∧ 0 < (s.extract 2 s.size).size ∧ (s.extract 2 s.size).size ≤ s.size ∧
   (s.extract 2 s.size).data.toList = s.data.toList.drop 2 ∧ s.size - 2 = (s.extract 2 s.size).size := by
 simp only [m0b, decide_eq_true_eq, i0u] at h
 obtain ⟨h2, h3, h4⟩ := h
 refine ⟨h2, ?_, ?_, ?_, ?_, ?_, ?_, ?_⟩
 ·rw [List.getElem?_eq_getElem (by simp; omega)] at h3
  have : s[0] = 48 := by injection h3
  rw [this]; rfl
 ·rw [List.getElem?_eq_getElem (by simp; omega)] at h4
  have : s[1] = 120 := by injection h4
  rw [this]; rfl
 ·have : (s.extract 2 s.size).toList ≠ [] := by
   intro e
   have h5 := congrArg List.length e
   simp [ByteArray.toList_eq] at h5
   omega
  simpa using this
 ·simp; omega
 ·simp
 ·simp; exact List.take_of_length_le (by simp)
 ·simp
theorem p0d (s : ByteArray) (h : m0b s.data.toList = false) (h2 : 2 < s.size) :
  ((s[0].toNat : Int) == 48) = false ∨ (((s[0].toNat : Int) == 48) = true ∧ ((s[1].toNat : Int) == 120) = false) := by
 simp only [m0b, decide_eq_false_iff_not, i0u] at h
 by_cases h3 : s[0] = 48
 ·right
  refine ⟨by rw [h3]; rfl, ?_⟩
  rw [beq_eq_false_iff_ne]
  intro h4
  apply h
  refine ⟨h2, ?_, ?_⟩
  ·rw [List.getElem?_eq_getElem (by simp; omega)]; exact congrArg some h3
  ·rw [List.getElem?_eq_getElem (by simp; omega)]
   refine congrArg some (UInt8.toNat_inj.1 ?_)
   show s[1].toNat = 120
   omega
 ·left
  rw [beq_eq_false_iff_ne]
  intro h4
  apply h3
  refine UInt8.toNat_inj.1 ?_
  show s[0].toNat = 120 - 72
  omega
theorem e1i (b : Nat) (t : List UInt8) : (g0a b t).1 < 18446744073709551616 ∧ (g0a b t).2 < 100 := by
 unfold g0a
 split
 ·exact ⟨by decide, by decide⟩
 ·split
  ·split
   ·rename_i h; exact ⟨h, show 0 < 100 by decide⟩
   ·exact ⟨by decide, by decide⟩
  ·exact ⟨by decide, by decide⟩
theorem t0o (l : List UInt8) : (b0h l).1 < 18446744073709551616 := by
 unfold b0h; split <;> exact (e1i _ _).1
end
section
open Go.RowKit
def ba (l : List UInt8) : ByteArray := ⟨l.toArray⟩
theorem b0c (l : List UInt8) : (ba l).toList = l := by rw [e0v]; rfl
theorem n0c (l : List UInt8) : (ba l).data.toList = l := rfl
theorem o1l {s : ByteArray} {l : List UInt8} (h : s.data.toList = l) : s = ba l := by
 subst h; rfl
theorem g1c (a b : List UInt8) : ba a ++ ba b = ba (a ++ b) := by
 apply o1l; simp [ba]
theorem w0t (l : List UInt8) : (ba l).size = l.length := by
 rw [← i0u, n0c]
def dg (d : Nat) : UInt8 := UInt8.ofNat (if d < 10 then 48 + d else 87 + d)
theorem s0d (d : Nat) (h : d < 16) : (ByteArray.mk #[48, 49, 50, 51, 52, 53, 54, 55, 56, 57, 97, 98, 99, 100, 101, 102]).extract d (d + 1) = ba [dg d] := by
 have key : ∀ d : Fin 16, ((ByteArray.mk #[48, 49, 50, 51, 52, 53, 54, 55, 56, 57, 97, 98, 99, 100, 101, 102]).extract d.val (d.val + 1)).data.toList = [dg d.val] := by decide
 exact o1l (key ⟨d, h⟩)
theorem w0l (d : Nat) (h : d < 16) : digN (dg d).toNat = d := by
 have key : ∀ d : Fin 16, digN (dg d.val).toNat = d.val := by decide
 exact key ⟨d, h⟩
theorem dg_ten (d : Nat) (h : d < 10) : dg d ≠ 120 := by
 match d, h with
 | 0, _ => decide | 1, _ => decide | 2, _ => decide | 3, _ => decide | 4, _ => decide | 5, _ => decide | 6, _ => decide | 7, _ => decide
 | 8, _ => decide | 9, _ => decide
def txt (b w : Nat) : List UInt8 := if _h : w < b ∨ b < 2 then [dg (w % b)] else txt b (w / b) ++ [dg (w % b)]
 termination_by w
 decreasing_by exact Nat.div_lt_self (by omega) (by omega)
theorem k0d (b w : Nat) (h : w < b) : txt b w = [dg w] := by
 rw [txt, dif_pos (.inl h), Nat.mod_eq_of_lt h]
theorem n0v (b w : Nat) (hb : 2 ≤ b) (h : b ≤ w) : txt b w = txt b (w / b) ++ [dg (w % b)] := by
 rw [txt, dif_neg (by omega)]
theorem h0n (b : Nat) (hb : 2 ≤ b) (hb16 : b ≤ 16) : ∀ (n w : Nat), w < n → (∀ c ∈ txt b w, ∃ d, d < b ∧ c = dg d) ∧ e0t b (txt b w) = w ∧ txt b w ≠ [] := by
 intro n
 induction n with
 | zero => intro w h; omega
 | succ n ih =>
  intro w hw
  by_cases h : w < b
  ·rw [k0d b w h]
   refine ⟨fun c hc => ⟨w, h, by simpa using hc⟩, ?_, by simp⟩
   show 0 * b + digN (dg w).toNat = w
   rw [w0l w (by omega)]; omega
  ·have h1 : w / b < w := Nat.div_lt_self (by omega) (by omega)
   obtain ⟨i1, i2, _⟩ := ih (w / b) (by omega)
   have hm : w % b < b := Nat.mod_lt _ (by omega)
   rw [n0v b w hb (by omega)]
   refine ⟨?_, ?_, by simp⟩
   ·intro c hc
    rw [List.mem_append] at hc
    rcases hc with hc | hc
    ·exact i1 c hc
    ·exact ⟨w % b, hm, by simpa using hc⟩
   ·rw [q0v, i2, w0l _ (by omega)]
    have := Nat.div_add_mod w b
    rw [Nat.mul_comm] at this; omega
theorem s0s (b w : Nat) (hb : 2 ≤ b) (hb16 : b ≤ 16) (hw : w < 18446744073709551616) : g0a b (txt b w) = (w, 0) := by
 obtain ⟨h1, h2, h3⟩ := h0n b hb hb16 (w + 1) w (by omega)
 unfold g0a
 rw [if_neg h3, if_pos, h2, if_pos hw]
 rw [List.all_eq_true]
 intro c hc
 obtain ⟨d, hd, rfl⟩ := h1 c hc
 rw [w0l d (by omega)]; simpa using hd
theorem f1m (w : Nat) (hw : w < 18446744073709551616) : b0h ([48, 120] ++ txt 16 w) = (w, 0) := by
 obtain ⟨_, _, h3⟩ := h0n 16 (by decide) (by decide) (w + 1) w (by omega)
 have hh : m0b ([48, 120] ++ txt 16 w) = true := by
  unfold m0b
  rw [decide_eq_true_eq]
  refine ⟨?_, rfl, rfl⟩
  have : 0 < (txt 16 w).length := List.length_pos_iff.2 h3
  simp; omega
 unfold b0h
 rw [if_pos hh]
 exact s0s 16 w (by decide) (by decide) hw
theorem f1s (w : Nat) (hw : w < 18446744073709551616) : b0h (txt 10 w) = (w, 0) := by
 obtain ⟨h1, _, _⟩ := h0n 10 (by decide) (by decide) (w + 1) w (by omega)
 have hh : m0b (txt 10 w) = false := by
  unfold m0b
  rw [decide_eq_false_iff_not]
  rintro ⟨_, _, h⟩
  obtain ⟨d, hd, e⟩ := h1 120 (List.mem_of_getElem? h)
  exact dg_ten d hd e.symm
 unfold b0h
 rw [hh]
 exact s0s 10 w (by decide) (by decide) hw
theorem o0r (b : Nat) (hb : 2 ≤ b) : ∀ (k w : Nat), w < b ^ (k + 1) → (txt b w).length ≤ k + 1 := by
 intro k
 induction k with
 | zero =>
  intro w h
  rw [k0d b w (by simpa using h)]; simp
 | succ k ih =>
  intro w h
  by_cases hw : w < b
  ·rw [k0d b w hw]; simp
  ·rw [n0v b w hb (by omega), List.length_append]
   have := ih (w / b) (by
    rw [Nat.pow_succ] at h
    exact Nat.div_lt_of_lt_mul (by rw [Nat.mul_comm]; exact h))
   simp; omega
theorem i0r (b w : Nat) (hb : 2 ≤ b) (hw : w < 18446744073709551616) : (txt b w).length ≤ 64 := by
 refine o0r b hb 63 w (Nat.lt_of_lt_of_le hw ?_)
 have : (2 : Nat) ^ 64 ≤ b ^ 64 := Nat.pow_le_pow_left hb 64
 have e : (2 : Nat) ^ 64 = 18446744073709551616 := by decide
 omega
theorem r0i {P : Program} (a b : List UInt8) (h : a.length + b.length ≤ 1000000) (w : World) : (Op.stringOp .add (ba a) (ba b)).run P w = .ok (.string (ba (a ++ b))) w := by
 rw [run_string_add_sum w _ _ (by rw [w0t, w0t]; omega), g1c]
def i0e (n y : Nat) (acc : List UInt8) : Prop := txt 16 n = txt 16 y ++ acc.reverse
theorem i0e.start (n : Nat) : i0e n n [] := by simp [i0e]
theorem i0e.next {n y : Nat} {acc : List UInt8} (h : i0e n y acc) (hy : 16 ≤ y) : i0e n (y / 16) (acc ++ [dg (y % 16)]) := by
 unfold i0e at *
 rw [h, n0v 16 y (by decide) hy]; simp
theorem i0e.last {n y : Nat} {acc : List UInt8} (h : i0e n y acc) (hy : y < 16) : txt 16 n = (acc ++ [dg (y % 16)]).reverse := by
 unfold i0e at h
 rw [h, k0d 16 y hy, Nat.mod_eq_of_lt hy]; simp
theorem i0e.len {n y : Nat} {acc : List UInt8} (h : i0e n y acc) (hn : n < 18446744073709551616) : acc.length < 64 := by
 unfold i0e at h
 have h1 := i0r 16 n (by decide) hn
 obtain ⟨_, _, h3⟩ := h0n 16 (by decide) (by decide) (y + 1) y (by omega)
 have h4 : 0 < (txt 16 y).length := List.length_pos_iff.2 h3
 rw [h, List.length_append, List.length_reverse] at h1
 omega
theorem k1g (acc : List UInt8) (k : Nat) (h : k < acc.length) : (acc.drop k).reverse = (acc.drop (k + 1)).reverse ++ [acc[k]] := by
 rw [List.drop_eq_getElem_cons h, List.reverse_cons]
theorem dg_at (d : Nat) (h : d < (ByteArray.mk #[48, 49, 50, 51, 52, 53, 54, 55, 56, 57, 97, 98, 99, 100, 101, 102]).size) : (ByteArray.mk #[48, 49, 50, 51, 52, 53, 54, 55, 56, 57, 97, 98, 99, 100, 101, 102])[d] = dg d := by
 have key : ∀ d : Fin 16, (ByteArray.mk #[48, 49, 50, 51, 52, 53, 54, 55, 56, 57, 97, 98, 99, 100, 101, 102])[d.val]'d.isLt = dg d.val := by decide
 exact key ⟨d, h⟩
end
section
open Go.RowKit
def maskN (n : Int) : Nat := 2 ^ (min n.toNat 64) - 1
theorem j1f (n : Int) : maskN n < 18446744073709551616 := by
 unfold maskN
 have h : (2 : Nat) ^ (min n.toNat 64) ≤ 2 ^ 64 := Nat.pow_le_pow_right (by decide) (by omega)
 have h0 : 0 < (2 : Nat) ^ (min n.toNat 64) := Nat.pow_pos (by decide)
 omega
theorem v0w (n : Int) (h : n < 64) : maskN n = 2 ^ n.toNat - 1 := by
 unfold maskN; rw [Nat.min_eq_left (by omega)]
theorem e1u (n : Int) (h : 64 ≤ n) : maskN n = 18446744073709551615 := by
 unfold maskN; rw [Nat.min_eq_right (by omega)]
theorem e1t (n : Int) (h : n < 64) : IntKind.u64.wrap (IntKind.u64.wrap (2 ^ n.toNat) - 1) = (maskN n : Int) := by
 rw [v0w n h]
 have h1 : (2 : Nat) ^ n.toNat ≤ 2 ^ 63 := Nat.pow_le_pow_right (by decide) (by omega)
 have h0 : 0 < (2 : Nat) ^ n.toNat := Nat.pow_pos (by decide)
 have e : ((2 : Int) ^ n.toNat) = ((2 ^ n.toNat : Nat) : Int) := by simp
 rw [e, IntKind.wrap_u64, IntKind.wrap_u64]
 generalize (2 : Nat) ^ n.toNat = m at *
 have : (2:Nat)^63 = 9223372036854775808 := by decide
 omega
theorem y0d (a k : Nat) : a &&& (2 ^ k - 1) = a % 2 ^ k := Nat.and_two_pow_sub_one_eq_mod a k
theorem o0m (x : Int) (hx : 0 ≤ x ∧ x < 18446744073709551616) : IntKind.u64.wrap x = x := by rw [IntKind.wrap_u64]; omega
def c0k (x n : Int) : Bool := decide (x.toNat % 2 ^ n.toNat = 0)
theorem u0w (x n : Int) (hx : 0 ≤ x ∧ x < 18446744073709551616) :
  (bits .and .u64 x (maskN n) == 0) = c0k x n := by
 obtain ⟨m, rfl⟩ := Int.eq_ofNat_of_zero_le hx.1
 rw [bits_and_u64_nat _ _ (by omega) (j1f n), maskN, y0d]
 unfold c0k
 rw [Int.toNat_natCast]
 have e : m % 2 ^ (min n.toNat 64) = m % 2 ^ n.toNat := by
  by_cases h : n.toNat ≤ 64
  ·rw [Nat.min_eq_left h]
  ·rw [Nat.min_eq_right (by omega), Nat.mod_eq_of_lt (by omega), Nat.mod_eq_of_lt]
   exact Nat.lt_of_lt_of_le (by omega : m < 2 ^ 64) (Nat.pow_le_pow_right (by decide) (by omega))
 rw [e]
 rw [Bool.eq_iff_iff, beq_iff_eq, decide_eq_true_eq]; exact Int.natCast_eq_zero
end
section
open Go.RowKit
theorem v0i (r : Nat) (h : r < 16) (wx : World) :
  (Instr.slice 9 (.string { data := #[48, 49, 50, 51, 52, 53, 54, 55, 56, 57, 97, 98, 99, 100, 101, 102] }) (some (.int .u64 (r : Int))) (some (.int .u64 ((r : Int) + 1))) none).run Tryz.prog wx = .ok (.string (ba [dg r])) wx := by
 rw [run_slice_string wx 9 _ _ _ _ _ Tryz.underlying9 (by omega) (by omega) (by show (r : Int) + 1 ≤ 16; omega)]
 have e : ((r : Int) + 1).toNat = r + 1 := by omega
 rw [Int.toNat_natCast, e, s0d r h]
def w0z (n : Nat) : Prop := n < 18446744073709551616 → ∀ w : World, Calls Tryz.prog 103 #[.int .u64 (n : Int)] w fun e w' => e = .returned (.string (ba (txt 10 n))) ∧ ∃ m, w' = w.drewN m
theorem k1h (n : Nat) (ih : ∀ k, k < n → w0z k) : w0z n := by
 intro hn w
 by_cases h : n < 10
 ·have H := h_ (k0d 10 n h)
  have HS := h_ (s0d n (by omega))
  have IH := h_ ih
  clear ih
  go_enter Tryz.func103, Tryz.ntmps103
  go_wp2
  go_ret
  exact ⟨o0y (congrArg Value.string (HS.out.trans (congrArg ba H.out.symm))), 0, rfl⟩
 ·have IH := h_ (ih (n / 10) (by omega))
  have H := h_ (n0v 10 n (by decide) (by omega))
  have hr : n % 10 < 10 := Nat.mod_lt _ (by decide)
  have hq : n / 10 < 18446744073709551616 := by omega
  have HS := h_ (s0d (n % 10) (by omega))
  have e1 : IntKind.u64.wrap ((n : Int) / 10) = ((n / 10 : Nat) : Int) := by rw [o0m _ (by omega)]; omega
  have e2 : (n : Int).tmod 10 = ((n % 10 : Nat) : Int) := by rw [Int.tmod_eq_emod_of_nonneg (by omega)]; omega
  have e4 : (n : Int) % 10 = ((n % 10 : Nat) : Int) := by omega
  clear ih
  generalize n / 10 = q at *
  generalize n % 10 = r at *
  have e3 : IntKind.u64.wrap ((r : Int) + 1) = (r : Int) + 1 := o0m _ (by omega)
  have hsl := v0i r (by omega)
  have hcat := r0i (P := Tryz.prog) (txt 10 q) [dg r] (by have := i0r 10 q (by decide) hq; simp; omega)
  go_enter Tryz.func103, Tryz.ntmps103
  go_wp2_with fail
  go_quiet ((go_at_call 103; exact quiet_of (IH.out hq _)))
  go_wp2
  go_ret
  exact ⟨o0y (congrArg Value.string (congrArg ba H.out.symm)), _, rfl⟩
theorem o1b (n : Nat) : w0z n := Nat.strongRecOn n k1h
theorem f1t (x : Int) (w : World) (hx : 0 ≤ x ∧ x < 18446744073709551616) :
  Calls Tryz.prog 103 #[.int .u64 x] w fun e w' => e = .returned (.string (ba (txt 10 x.toNat))) ∧ ∃ m, w' = w.drewN m := by
 obtain ⟨n, rfl⟩ := Int.eq_ofNat_of_zero_le hx.1
 rw [Int.toNat_natCast]
 exact o1b n (by omega) w
def intL (n : Int) : List UInt8 := if n < 0 then [45] ++ txt 10 (-n).toNat else txt 10 n.toNat
theorem l0l (n : Int) (w : World) (hn : -9223372036854775808 ≤ n ∧ n ≤ 9223372036854775807) :
  Calls Tryz.prog 60 #[.int .i64 n] w fun e w' => e = .returned (.string (ba (intL n))) ∧ ∃ m, w' = w.drewN m := by
 by_cases h : n < 0
 ·have H := h_ (show intL n = [45] ++ txt 10 (-n).toNat by unfold intL; rw [if_pos h])
  go_enter Tryz.func60, Tryz.ntmps60
  have e1 : IntKind.u64.wrap (wrap64 (-n)) = -n := by rw [IntKind.wrap_u64]; unfold wrap64; omega
  have b1 := i0r 10 (-n).toNat (by decide) (by omega)
  have hcat := r0i (P := Tryz.prog) [45] (txt 10 (-n).toNat) (by simp; omega)
  have hcat' : ∀ wx : World, (Op.stringOp .add { data := #[45] } (ba (txt 10 (-n).toNat))).run Tryz.prog wx = .ok (.string (ba ([45] ++ txt 10 (-n).toNat))) wx := hcat
  clear hcat b1
  go_wp2_with (go_at_call 103; refine (f1t _ _ (by omega)).mono ?_; rintro e w' ⟨rfl, m, rfl⟩)
  go_ret
  exact ⟨o0y (congrArg Value.string (congrArg ba H.out.symm)), _, rfl⟩
 ·have H := h_ (show intL n = txt 10 n.toNat by unfold intL; rw [if_neg h])
  go_enter Tryz.func60, Tryz.ntmps60
  go_wp2_with (go_at_call 103; refine (f1t _ _ (by omega)).mono ?_; rintro e w' ⟨rfl, m, rfl⟩)
  go_ret
  exact ⟨o0y (congrArg Value.string (congrArg ba H.out.symm)), _, rfl⟩
end
section
open Go.RowKit
def Blk (w : World) (T : TypeId) (g : Nat) (cs : List Value) : Prop := w.heap[g]? = some (.cells cs.toArray T (0, 0))
section
variable {w w' : World} {T : TypeId} {g : Nat} {cs : List Value}
theorem Blk.new (w : World) (T : TypeId) (cs : List Value) : Blk (w.alloc (.cells cs.toArray T)) T w.heap.size cs := heap_alloc_new w _
theorem Blk.lt (h : Blk w T g cs) : g < w.heap.size := (Array.getElem?_eq_some_iff.1 h).1
theorem Blk.cell (h : Blk w T g cs) (j : Nat) : w.cell? ⟨g, j, none⟩ = cs[j]? := by rw [cell_of_row _ _ _ _ _ _ h]; simp
theorem Blk.free (h : Blk w T g cs) (j : Nat) : w.frozen? ⟨g, j, none⟩ = false := frozen_of_row w g j _ T h
theorem Blk.below (h : Blk w T g cs) (hb : Below w.heap.size w w') : Blk w' T g cs := (hb.block g h.lt).trans h
theorem Blk.belowB {B : Nat} (h : Blk w T g cs) (hb : Below B w w') (hB : g < B) : Blk w' T g cs := (hb.block g hB).trans h
theorem Blk.kept {row : Option Nat} (h : Blk w T g cs) (hg : w.grownBy w' row) (hne : some g ≠ row) : Blk w' T g cs := (hg.block g h.lt hne).trans h
theorem Blk.alloc (h : Blk w T g cs) (o : Obj) : Blk (w.alloc o) T g cs := (Below.heap_alloc w o g h.lt).trans h
theorem Blk.dn (h : Blk w T g cs) (k : Nat) : Blk (w.drewN k) T g cs := h
theorem Blk.set (h : Blk w T g cs) (j : Nat) (v : Value) : Blk (w.setCell ⟨g, j, none⟩ v) T g (cs.set j v) := by
 unfold Blk; rw [heap_setCell_same w g j _ T _ h]; simp
theorem Blk.other (h : Blk w T g cs) {p : Addr} (hne : g ≠ p.block) (v : Value) : Blk (w.setCell p v) T g cs :=
 (Below.heap_setCell w p v g hne).trans h
end
theorem b0t {w : World} {p : Addr} {u : Value} (h : w.cell? p = some u) (o : Obj) : (w.alloc o).cell? p = some u := (World.cell?_alloc_lt w o p (World.block_lt_of_cell? w p h)).trans h
theorem cell_below {w w' : World} {p : Addr} {u : Value} (h : w.cell? p = some u) (hb : Below w.heap.size w w') : w'.cell? p = some u := (hb.cell (World.block_lt_of_cell? w p h)).trans h
end
end Go.Proofs.YtmnojnopejhebaaGreat
