/- A test's text, put together line by line: plain. -/
import Derived.Test.YtmnojnopejhebaaGreatMgbc
import Derived.Lib.Join
namespace Go.Proofs.YtmnojnopejhebaaGreat
set_option linter.unusedVariables false
set_option linter.unusedSimpArgs false
set_option maxRecDepth 100000
set_option maxHeartbeats 25600000
section
open Go.RowKit
def okU (c : UInt8) : Bool := decide (32 ≤ c.toNat) && decide (c.toNat ≤ 126) && !(c == 47)
def EndP (l : List UInt8) : Prop := l.all okU = true ∧ ∃ r c, l = r ++ [c] ∧ l1z c = false
theorem EndP.app {a b : List UInt8} (ha : a.all okU = true) (hb : EndP b) : EndP (a ++ b) := by
 obtain ⟨h1, r, c, rfl, h2⟩ := hb
 exact ⟨by rw [List.all_append, ha, h1]; rfl, a ++ r, c, by simp, h2⟩
theorem EndP.all {l : List UInt8} (h : EndP l) : l.all okU = true := h.1
end
section
open Go.RowKit
def insT (i : Ins) : List UInt8 := b0b i.op i.d i.n i.m i.imm i.kind
def a0t : List Nat → Nat → List (List UInt8)
 | [], _ => []
 | v :: l, k => (if v = 0 then [] else [flat ((1, p0i) :: z0l k v)]) ++ a0t l (k + 1)
def m0c (l : List Ins) : List (List UInt8) := if l = [] then [] else c0u :: l.map insT
def d0u (i : Nat) (c : CoreA) : List (List UInt8) := flat ((1, h0w) :: n0j i c.space c.table) :: (a0t c.regs 0 ++ (c.code.map insT ++ m0c c.hand))
def a0n : Nat → List CoreA → List (List UInt8)
 | _, [] => []
 | i, c :: l => d0u i c ++ a0n (i + 1) l
def i0o (fa : Bool) (t : CT) : List UInt8 := (if fa then j0o else j0p) ++ [32] ++ a0m t
def h0s (x : SrcA) : List (List UInt8) := flat ((1, k0b) :: l0v x.name.data.toList) :: (x.tables.map (fun v => flat ((1, a0s) :: b0l v)) ++ (x.cells.map (fun p => flat ((1, c0v) :: d0j p.1 p.2)) ++ (a0n 0 x.cores ++ [i0o x.fa x.cond])))
def runT : SrcA → List (List UInt8) → Option SrcA
 | x, [] => some x
 | x, l :: ls => if (rowA x (ba l) 0).2.1 = 0 then runT (rowA x (ba l) 0).1 ls else none
def Steps (x : SrcA) (ls : List (List UInt8)) (y : SrcA) : Prop := ∃ z, runT x ls = some z ∧ nx z = nx y
theorem Steps.nil (x : SrcA) : Steps x [] x := ⟨x, rfl, rfl⟩
theorem Steps.cong : ∀ (ls : List (List UInt8)) {x x' y : SrcA}, nx x = nx x' → Steps x ls y → Steps x' ls y
 | [], x, x', y, h, ⟨z, hz, he⟩ => by
  have e : x = z := by simpa [runT] using hz
  subst e; exact ⟨x', rfl, h.symm.trans he⟩
 | l :: ls, x, x', y, h, ⟨z, hz, he⟩ => by
  have k := row_ev h (ba l) 0 0
  rw [runT] at hz
  split at hz
  ·rename_i hc
   obtain ⟨z', hz', he'⟩ := Steps.cong ls k.1 ⟨z, hz, he⟩
   exact ⟨z', by rw [runT, ← k.2, if_pos hc]; exact hz', he'⟩
  ·cases hz
theorem Steps.to {x y y' : SrcA} {ls : List (List UInt8)} (h : Steps x ls y) (e : nx y = nx y') : Steps x ls y' := by
 obtain ⟨z, hz, he⟩ := h; exact ⟨z, hz, he.trans e⟩
theorem Steps.app : ∀ {a : List (List UInt8)} {b : List (List UInt8)} {x y z : SrcA}, Steps x a y → Steps y b z → Steps x (a ++ b) z
 | [], b, x, y, z, ⟨w, hw, he⟩, h => by
  have e : x = w := by simpa [runT] using hw
  subst e; exact Steps.cong b he.symm h
 | l :: a, b, x, y, z, ⟨w, hw, he⟩, h => by
  rw [runT] at hw
  split at hw
  ·rename_i hc
   obtain ⟨v, hv, hv'⟩ := Steps.app (a := a) (b := b) ⟨w, hw, he⟩ h
   exact ⟨v, by rw [List.cons_append, runT, if_pos hc]; exact hv, hv'⟩
  ·cases hw
theorem Steps.one {x y : SrcA} {l : List UInt8} (h : (rowA x (ba l) 0).2.1 = 0 ∧ nx (rowA x (ba l) 0).1 = nx y) : Steps x [l] y := ⟨_, by rw [runT, if_pos h.1]; rfl, h.2⟩
theorem Steps.cons {x y z : SrcA} {l : List UInt8} {ls : List (List UInt8)} (h : (rowA x (ba l) 0).2.1 = 0 ∧ nx (rowA x (ba l) 0).1 = nx y) (k : Steps y ls z) : Steps x (l :: ls) z := (Steps.one h).app k
def k0s (l : List Ins) : Prop := ∀ i ∈ l, b0e i.op i.d i.n i.m i.imm i.kind
theorem n1o {i : Ins} (h : b0e i.op i.d i.n i.m i.imm i.kind) : insT i = e0z i.op i.d i.n i.m i.imm i.kind := by unfold insT b0b; rw [if_pos h]
structure CoreOK (c : CoreA) : Prop where
 len : c.regs.length = 31
 regs : ∀ v ∈ c.regs, v < W64
 space : c.space < 65536
 table : c.table < W64
 code : k0s c.code
 hand : k0s c.hand
structure TestOK (x : SrcA) : Prop where
 name : pcOK (1, x.name.data.toList)
 tables : ∀ t ∈ x.tables, t < W64
 cells : ∀ p ∈ x.cells, p.1 < W64 ∧ p.2 < W64
 len : x.cores.length < 65536
 cores : ∀ c ∈ x.cores, CoreOK c
 cond : RT x.cond
 count : a0k x.cond ≤ 64
end
section
open Go.RowKit
def okV (c : UInt8) : Bool := decide (32 ≤ c.toNat) && decide (c.toNat ≤ 126)
def noSS : List UInt8 → Bool
 | [] => true
 | c :: l => !(decide (c = 47) && decide (l.head? = some 47)) && noSS l
structure CQ (l : List UInt8) : Prop where
 ss : noSS l = true
 ok : l.all okV = true
 tail : ∃ r c, l = r ++ [c] ∧ l1z c = false ∧ ¬ c = 47
theorem x0q : ∀ {a b : List UInt8}, noSS a = true → noSS b = true → ¬ a.getLast? = some 47 → noSS (a ++ b) = true
 | [], b, _, hb, _ => hb
 | [c], b, _, hb, hl => by
  show (!(decide (c = 47) && decide (b.head? = some 47)) && noSS b) = true
  have hc : ¬ c = 47 := fun e => hl (by rw [e]; rfl)
  rw [decide_eq_false hc, hb]; rfl
 | c :: d :: a, b, ha, hb, hl => by
  rw [noSS, Bool.and_eq_true] at ha
  have ih := x0q (a := d :: a) (b := b) ha.2 hb (fun e => hl (by rw [List.getLast?_cons_cons]; exact e))
  show (!(decide (c = 47) && decide ((d :: (a ++ b)).head? = some 47)) && noSS (d :: a ++ b)) = true
  rw [ih, Bool.and_true]
  exact ha.1
theorem okUV {c : UInt8} (h : okU c = true) : okV c = true ∧ ¬ c = 47 := by
 unfold okU at h; rw [Bool.and_eq_true] at h
 exact ⟨h.1, by simpa using h.2⟩
theorem e1s : ∀ {l : List UInt8}, l.all okU = true → noSS l = true
 | [], _ => rfl
 | c :: l, h => by
  rw [List.all_cons, Bool.and_eq_true] at h
  rw [noSS, decide_eq_false (okUV h.1).2, e1s h.2]; rfl
theorem allV {l : List UInt8} (h : l.all okU = true) : l.all okV = true := List.all_eq_true.2 fun c hc => (okUV (List.all_eq_true.1 h c hc)).1
theorem EndP.cq {l : List UInt8} (h : EndP l) : CQ l := by
 obtain ⟨h1, r, c, rfl, h2⟩ := h
 exact ⟨e1s h1, allV h1, r, c, rfl, h2, (okUV (List.all_eq_true.1 h1 c (by simp))).2⟩
theorem CQ.app {a b : List UInt8} (ha : noSS a = true) (hv : a.all okV = true) (hl : ¬ a.getLast? = some 47) (hb : CQ b) : CQ (a ++ b) := by
 obtain ⟨r, c, e, h1, h2⟩ := hb.tail
 exact ⟨x0q ha hb.ss hl, by rw [List.all_append, hv, hb.ok]; rfl, a ++ r, c, by rw [e]; simp, h1, h2⟩
theorem CQ.last {l : List UInt8} (h : CQ l) : ¬ l.getLast? = some 47 := by
 obtain ⟨r, c, e, _, h2⟩ := h.tail
 rw [e]; simp; exact h2
def q0d (x : SrcA) : List UInt8 := (h0s x).flatMap fun l => l ++ [10]
end
section
open Go.RowKit
def L10 (rs : List (List UInt8)) : List UInt8 := rs.flatMap fun l => l ++ [10]
theorem j0x : L10 [] = [] := rfl
theorem o0k (l : List UInt8) (rs : List (List UInt8)) : L10 (l :: rs) = (l ++ [10]) ++ L10 rs := rfl
theorem e0d (a b : List (List UInt8)) : L10 (a ++ b) = L10 a ++ L10 b := by simp [L10]
theorem s0m (l : List UInt8) : L10 [l] = l ++ [10] := by simp [L10]
theorem g1s (x : SrcA) : q0d x = L10 (h0s x) := rfl
theorem i0n : ∀ (a b : List Nat) (n : Nat), a0t (a ++ b) n = a0t a n ++ a0t b (n + a.length)
 | [], b, n => by simp [a0t]
 | v :: a, b, n => by
  rw [List.cons_append, a0t, a0t, i0n a b (n + 1), List.append_assoc, List.length_cons, show n + 1 + a.length = n + (a.length + 1) by omega]
theorem t0j {l : List Nat} {k : Nat} (h : k < l.length) : a0t (l.take (k + 1)) 0 = a0t (l.take k) 0 ++ (if l[k] = 0 then [] else [flat ((1, p0i) :: z0l k l[k])]) := by
 rw [← List.take_append_getElem h, i0n, List.length_take, Nat.min_eq_left (by omega), Nat.zero_add]
 simp [a0t]
theorem w0y (l : List Nat) (k : Nat) : (L10 (a0t (l.take k) 0)).length ≤ (L10 (a0t l 0)).length := by
 conv => rhs; rw [← List.take_append_drop k l, i0n, e0d, List.length_append]
 omega
theorem l0b {α : Type} (f : α → List UInt8) (l : List α) (k : Nat) : (L10 ((l.take k).map f)).length ≤ (L10 (l.map f)).length := by
 conv => rhs; rw [← List.take_append_drop k l, List.map_append, e0d, List.length_append]
 omega
theorem i0l {α : Type} (f : α → List UInt8) {l : List α} {k : Nat} (h : k < l.length) : L10 ((l.take (k + 1)).map f) = L10 ((l.take k).map f) ++ (f l[k] ++ [10]) := by
 rw [← List.take_append_getElem h, List.map_append, e0d, List.map_singleton, s0m]
theorem g0z : ∀ (a b : List CoreA) (n : Nat), a0n n (a ++ b) = a0n n a ++ a0n (n + a.length) b
 | [], b, n => by simp [a0n]
 | v :: a, b, n => by
  rw [List.cons_append, a0n, a0n, g0z a b (n + 1), List.append_assoc, List.length_cons, show n + 1 + a.length = n + (a.length + 1) by omega]
theorem q0f {l : List CoreA} {k : Nat} (h : k < l.length) : a0n 0 (l.take (k + 1)) = a0n 0 (l.take k) ++ d0u k l[k] := by
 rw [← List.take_append_getElem h, g0z, List.length_take, Nat.min_eq_left (by omega), Nat.zero_add]
 simp [a0n]
theorem u0y (l : List CoreA) (k : Nat) : (L10 (a0n 0 (l.take k))).length ≤ (L10 (a0n 0 l)).length := by
 conv => rhs; rw [← List.take_append_drop k l, g0z, e0d, List.length_append]
 omega
theorem t0g {op d n m imm kind : Int} (h : b0e op d n m imm kind) : I64 imm := by
 obtain ⟨ha, hb, hc, hd⟩ := h
 unfold d0i at ha
 unfold d0h at hb
 unfold c0m at hc
 constructor <;> omega
theorem n1n (a : List UInt8) : Lib.join [a] [32] = a := Lib.join_one a [32]
theorem j1m (a b : List UInt8) : Lib.join [a, b] [32] = a ++ ([32] ++ b) := by simp [Lib.join, List.intercalate]
theorem n1m (a b c d : List UInt8) : Lib.join [a, b, c, d] [32] = a ++ ([32] ++ (b ++ ([32] ++ (c ++ ([32] ++ d))))) := by simp [Lib.join, List.intercalate]
theorem join6 (a b c d e f : List UInt8) : Lib.join [a, b, c, d, e, f] [32] = a ++ ([32] ++ (b ++ ([32] ++ (c ++ ([32] ++ (d ++ ([32] ++ (e ++ ([32] ++ f))))))))) := by simp [Lib.join, List.intercalate]
end
end Go.Proofs.YtmnojnopejhebaaGreat
