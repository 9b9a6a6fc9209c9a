/- Contracts of Load, Store and Branch of regs. -/
import Derived.Test.YtmnojnopejhebaaGreatMgaa
import Derived.Test.YtmnojnopejhebaaGreatMgab
import Derived.Test.YtmnojnopejhebaaGreatMgah
import Derived.Laws.Rows
import Derived.Test.YtmnojnopejhebaaGreatRows
import Derived.Deep.RegionHeld
import Derived.WalkKit
namespace Go.Proofs.YtmnojnopejhebaaGreat
set_option linter.unusedVariables false
set_option linter.unusedSimpArgs false
set_option maxRecDepth 100000
set_option maxHeartbeats 25600000
section
open Go.RowKit
def u64V (n : Nat) : Value := .int .u64 (n : Int)
def i64V (n : Int) : Value := .int .i64 n
def insL (l : List Ins) : List Value := l.flatMap fun x => b0r x.op x.d x.n x.m x.imm x.kind
def cellL (l : List (Nat × Nat)) : List Value := l.flatMap fun x => [u64V x.1, u64V x.2]
structure CoreV where
 r : Value
 c : Value
 h : Value
def g0v (cv : CoreV) (c : CoreA) : List Value := [cv.r, .int .i64 (c.space : Nat), u64V c.table, cv.c, cv.h]
def e0f : List CoreV → List CoreA → List Value
 | cv :: cvs, c :: cs => g0v cv c ++ e0f cvs cs
 | _, _ => []
structure SrcV where
 vC : Value
 vCo : Value
 k0 : Value
 k1 : Value
 k2 : Value
 k3 : Value
 k4 : Value
 k5 : Value
 vT : Value
 vPT : Value
 vPC : Value
 vPCo : Value
 vPI : Value
 cvs : List CoreV
 ivs : List Value
def condC (v : SrcV) : List Value := [v.k0, v.k1, v.k2, v.k3, v.k4, v.k5]
def srcC (x : SrcA) (v : SrcV) : List Value := [.string x.name, v.vC, v.vCo, .bool x.fa, v.k0, v.k1, v.k2, v.k3, v.k4, v.k5, v.vT, v.vPT, v.vPC, v.vPCo, v.vPI, .int .i64 x.pCond]
def stC (x : SrcA) (v : SrcV) : List Value := [.string x.name, v.vC, v.vCo, .bool x.fa, v.k0, v.k1, v.k2, v.k3, v.k4, v.k5, v.vT, v.vPT, v.vPC, v.vPCo, v.vPI, .int .i64 x.pCond, .int .i64 (x.after : Nat)]
theorem o0c : ∀ (l : List Ins), (insL l).length = l.length * 6
 | [] => rfl
 | x :: l => by
  show (b0r x.op x.d x.n x.m x.imm x.kind ++ insL l).length = _
  rw [List.length_append, o0c l]; simp [b0r]; omega
end
section
open Go.RowKit
def e0p (cv : CoreV) (c : GCore) : List Value := [cv.r, .int .i64 c.space, u64V c.table, cv.c, cv.h]
def h0x : List CoreV → List GCore → List Value
 | cv :: cvs, c :: cs => e0p cv c ++ h0x cvs cs
 | _, _ => []
def i0f (x : GSrc) (v : SrcV) : List Value := [.string x.name, v.vC, v.vCo, .bool x.fa, v.k0, v.k1, v.k2, v.k3, v.k4, v.k5, v.vT, v.vPT, v.vPC, v.vPCo, v.vPI, .int .i64 x.pCond]
theorem a1n (x : SrcA) (v : SrcV) : i0f (gsrc x) v = srcC x v := rfl
theorem n0l : ∀ (vl : List CoreV) (l : List CoreA), h0x vl (l.map l0d) = e0f vl l
 | [], _ => by cases ‹List CoreA› <;> rfl
 | _ :: _, [] => rfl
 | a :: vl, b :: l => by
  show e0p a (l0d b) ++ h0x vl (l.map l0d) = g0v a b ++ e0f vl l
  rw [n0l vl l]; rfl
def RdV (w : World) (size : Nat) (v : Value) (n : Nat) (xs : List Value) : Prop := ∃ p c, v = .slice p n c ∧ Rds w size p n xs ∧ n ≤ c
theorem RdV.below {w w' : World} {size : Nat} {v : Value} {n : Nat} {xs : List Value} (h : RdV w size v n xs) (hb : Below w.heap.size w w') : RdV w' size v n xs := by
 obtain ⟨p, c, h1, h2, h3⟩ := h; exact ⟨p, c, h1, h2.below hb, h3⟩
structure GSizes (x : GSrc) : Prop where
 cells : x.cells.length ≤ 20000
 cores : x.cores.length ≤ 20000
 tables : x.tables.length ≤ 20000
 pT : x.pT.length ≤ maxLen
 pC : x.pC.length ≤ maxLen
 pCo : x.pCo.length ≤ maxLen
 pI : x.pI.length ≤ maxLen
 ins : ∀ q ∈ x.pI, q.length ≤ maxLen
 code : ∀ c ∈ x.cores, c.code.length ≤ 20000 ∧ c.hand.length ≤ 20000 ∧ c.regs.length ≤ 20000
 tlt : ∀ t ∈ x.tables, t < 18446744073709551616
 clt : ∀ p ∈ x.cells, p.1 < 18446744073709551616 ∧ p.2 < 18446744073709551616
 klt : ∀ c ∈ x.cores, c.table < 18446744073709551616 ∧ ∀ r ∈ c.regs, r < 18446744073709551616
 cond : a0k x.cond ≤ 1000000000
structure GRd (w : World) (x : GSrc) (v : SrcV) : Prop where
 cells : RdV w 2 v.vC x.cells.length (cellL x.cells)
 cores : RdV w 5 v.vCo x.cores.length (h0x v.cvs x.cores)
 lenc : v.cvs.length = x.cores.length
 core : ∀ (i : Nat) (h : i < x.cores.length) (h' : i < v.cvs.length), RdV w 1 v.cvs[i].r x.cores[i].regs.length (x.cores[i].regs.map u64V) ∧ RdV w 6 v.cvs[i].c x.cores[i].code.length (insL x.cores[i].code) ∧ RdV w 6 v.cvs[i].h x.cores[i].hand.length (insL x.cores[i].hand)
 cond : ∃ S, CT.At w S x.cond (condC v)
 tables : RdV w 1 v.vT x.tables.length (x.tables.map u64V)
 pT : RdV w 1 v.vPT x.pT.length (x.pT.map i64V)
 pC : RdV w 1 v.vPC x.pC.length (x.pC.map i64V)
 pCo : RdV w 1 v.vPCo x.pCo.length (x.pCo.map i64V)
 pI : RdV w 1 v.vPI x.pI.length v.ivs
 leni : v.ivs.length = x.pI.length
 ins : ∀ (i : Nat) (h : i < x.pI.length) (h' : i < v.ivs.length), RdV w 1 v.ivs[i] x.pI[i].length (x.pI[i].map i64V)
 sizes : GSizes x
theorem GRd.below {w w' : World} {x : GSrc} {v : SrcV} (h : GRd w x v) (hb : Below w.heap.size w w') : GRd w' x v := by
 obtain ⟨S, hc⟩ := h.cond
 exact ⟨h.cells.below hb, h.cores.below hb, h.lenc, fun i h1 h2 => ⟨(h.core i h1 h2).1.below hb, (h.core i h1 h2).2.1.below hb, (h.core i h1 h2).2.2.below hb⟩, ⟨S, hc.below hb⟩, h.tables.below hb, h.pT.below hb, h.pC.below hb, h.pCo.below hb, h.pI.below hb, h.leni, fun i h1 h2 => (h.ins i h1 h2).below hb, h.sizes⟩
theorem GRd.dn {w : World} {x : GSrc} {v : SrcV} (h : GRd w x v) (k : Nat) : GRd (w.drewN k) x v := h.below (bd_ (Below.refl _ _) k)
theorem i0z : ∀ (vl : List CoreV) (l : List GCore) (k : Nat) (h : k < l.length) (h' : k < vl.length) (j : Nat), j < 5 → (h0x vl l)[k * 5 + j]? = (e0p vl[k] l[k])[j]?
 | a :: vl, b :: l, 0, _, _, j, hj => by
  show (e0p a b ++ h0x vl l)[0 * 5 + j]? = _
  rw [List.getElem?_append_left (by simp [e0p]; omega), Nat.zero_mul, Nat.zero_add]; rfl
 | a :: vl, b :: l, k + 1, h, h', j, hj => by
  show (e0p a b ++ h0x vl l)[(k + 1) * 5 + j]? = _
  rw [List.getElem?_append_right (by simp [e0p]; omega), show (k + 1) * 5 + j - (e0p a b).length = k * 5 + j by simp [e0p]; omega]
  exact i0z vl l k (by simpa using h) (by simpa using h') j hj
end
section
open Go.RowKit
theorem u0x (t : Nat) : c0k t 12 = decide (t % 4096 = 0) := by
 unfold c0k
 simp
theorem k1s {t : Nat} : n0t t = (c0k t 12 && decide (t < 4294967296)) := by rw [u0x]; rfl
theorem s0y {p : List Int} {pre l : List Nat} {t : Nat} (h : n0t t = false) : b0g p pre (t :: l) = (133, a0i p pre.length) := by rw [b0g, if_pos h]
theorem v0d {p : List Int} {pre l : List Nat} {t : Nat} (h : ¬ n0t t = false) (h2 : t ∈ pre) : b0g p pre (t :: l) = (132, a0i p pre.length) := by rw [b0g, if_neg h, if_pos h2]
theorem s0x {p : List Int} {pre l : List Nat} {t : Nat} (h : ¬ n0t t = false) (h2 : ¬ t ∈ pre) : b0g p pre (t :: l) = b0g p (pre ++ [t]) l := by rw [b0g, if_neg h, if_neg h2]
theorem n0h {p : List Int} {l : List Nat} {k : Nat} (h : k < l.length) (q : n0t (l.getD k 0) = false) : b0g p (l.take k) (l.drop k) = (133, a0i p k) := by
 rw [List.drop_eq_getElem_cons h, s0y (by simpa [List.getD, List.getElem?_eq_getElem h] using q), List.length_take, Nat.min_eq_left (by omega)]
theorem o0u {p : List Int} {l : List Nat} {k : Nat} (h : k < l.length) (q : ¬ n0t (l.getD k 0) = false) (i : Nat) (hi : i < k) (e : l.getD i 0 = l.getD k 0) : b0g p (l.take k) (l.drop k) = (132, a0i p k) := by
 rw [List.drop_eq_getElem_cons h, v0d (by simpa [List.getD, List.getElem?_eq_getElem h] using q), List.length_take, Nat.min_eq_left (by omega)]
 rw [List.mem_take_iff_getElem]
 refine ⟨i, by omega, ?_⟩
 simpa [List.getD, List.getElem?_eq_getElem h, List.getElem?_eq_getElem (show i < l.length by omega)] using e
theorem n0g {p : List Int} {l : List Nat} {k : Nat} (h : k < l.length) (q : ¬ n0t (l.getD k 0) = false) (hn : ∀ i, i < k → ¬ l.getD i 0 = l.getD k 0) : b0g p (l.take k) (l.drop k) = b0g p (l.take (k + 1)) (l.drop (k + 1)) := by
 rw [List.drop_eq_getElem_cons h, s0x (by simpa [List.getD, List.getElem?_eq_getElem h] using q) ?_]
 ·rw [List.take_append_getElem h]
 ·intro hm
  rw [List.mem_take_iff_getElem] at hm
  obtain ⟨i, hi, e⟩ := hm
  refine hn i (by omega) ?_
  simpa [List.getD, List.getElem?_eq_getElem h, List.getElem?_eq_getElem (show i < l.length by omega)] using e
theorem o0t {p : List Int} {l : List Nat} : b0g p (l.take l.length) (l.drop l.length) = (0, 0) := by rw [List.drop_length]; rfl
theorem k0g {w : World} {p : Option Addr} {l : List Nat} (h : Rds w 1 p l.length (l.map u64V)) {j : Nat} (hj : j < l.length) : ∃ g off, p = some ⟨g, off, none⟩ ∧ w.cell? ⟨g, off + j, none⟩ = some (.int .u64 ((l.getD j 0 : Nat) : Int)) := by
 obtain ⟨g, off, u, hp, hu, hc⟩ := h.at_ (j := j) (by omega)
 refine ⟨g, off, hp, ?_⟩
 rw [hc, ← hu]
 simp [List.getD, List.getElem?_eq_getElem hj, u64V]
theorem w0s {p : List Int} {pre l : List Nat} {t : Nat} (h : ¬ f0e t = 0) : cellsE p pre (t :: l) = (f0e t, a0i p pre.length) := by rw [cellsE, if_pos h]
theorem b1g {p : List Int} {pre l : List Nat} {t : Nat} (h : ¬ ¬ f0e t = 0) (h2 : t ∈ pre) : cellsE p pre (t :: l) = (130, a0i p pre.length) := by rw [cellsE, if_neg h, if_pos h2]
theorem w0r {p : List Int} {pre l : List Nat} {t : Nat} (h : ¬ ¬ f0e t = 0) (h2 : ¬ t ∈ pre) : cellsE p pre (t :: l) = cellsE p (pre ++ [t]) l := by rw [cellsE, if_neg h, if_neg h2]
theorem p0y {p : List Int} {l : List Nat} {k : Nat} (h : k < l.length) (q : ¬ f0e (l.getD k 0) = 0) : cellsE p (l.take k) (l.drop k) = (f0e (l.getD k 0), a0i p k) := by
 rw [List.drop_eq_getElem_cons h, w0s (by simpa [List.getD, List.getElem?_eq_getElem h] using q), List.length_take, Nat.min_eq_left (by omega)]
 simp [List.getD, List.getElem?_eq_getElem h]
theorem r0h {p : List Int} {l : List Nat} {k : Nat} (h : k < l.length) (q : ¬ ¬ f0e (l.getD k 0) = 0) (i : Nat) (hi : i < k) (e : l.getD i 0 = l.getD k 0) : cellsE p (l.take k) (l.drop k) = (130, a0i p k) := by
 rw [List.drop_eq_getElem_cons h, b1g (by simpa [List.getD, List.getElem?_eq_getElem h] using q), List.length_take, Nat.min_eq_left (by omega)]
 rw [List.mem_take_iff_getElem]
 refine ⟨i, by omega, ?_⟩
 simpa [List.getD, List.getElem?_eq_getElem h, List.getElem?_eq_getElem (show i < l.length by omega)] using e
theorem p0x {p : List Int} {l : List Nat} {k : Nat} (h : k < l.length) (q : ¬ ¬ f0e (l.getD k 0) = 0) (hn : ∀ i, i < k → ¬ l.getD i 0 = l.getD k 0) : cellsE p (l.take k) (l.drop k) = cellsE p (l.take (k + 1)) (l.drop (k + 1)) := by
 rw [List.drop_eq_getElem_cons h, w0r (by simpa [List.getD, List.getElem?_eq_getElem h] using q) ?_]
 ·rw [List.take_append_getElem h]
 ·intro hm
  rw [List.mem_take_iff_getElem] at hm
  obtain ⟨i, hi, e⟩ := hm
  refine hn i (by omega) ?_
  simpa [List.getD, List.getElem?_eq_getElem h, List.getElem?_eq_getElem (show i < l.length by omega)] using e
theorem r0g {p : List Int} {l : List Nat} : cellsE p (l.take l.length) (l.drop l.length) = (0, 0) := by rw [List.drop_length]; rfl
theorem l0u {w : World} {p : Option Addr} {l : List (Nat × Nat)} (h : Rds w 2 p l.length (cellL l)) {j : Nat} (hj : j < l.length) : ∃ g off, p = some ⟨g, off, none⟩ ∧ w.cell? ⟨g, off + j * 2, none⟩ = some (.int .u64 (((l.map Prod.fst).getD j 0 : Nat) : Int)) ∧ w.cell? ⟨g, off + j * 2 + 1, none⟩ = some (.int .u64 (((l.map Prod.snd).getD j 0 : Nat) : Int)) := by
 obtain ⟨g, off, hp, hc⟩ := h.2 (by omega)
 have e : ∀ (l : List (Nat × Nat)) (j : Nat), j < l.length → (cellL l)[j * 2]? = some (.int .u64 (((l.map Prod.fst).getD j 0 : Nat) : Int)) ∧ (cellL l)[j * 2 + 1]? = some (.int .u64 (((l.map Prod.snd).getD j 0 : Nat) : Int)) := by
  intro l
  induction l with
  | nil => intro j hj; simp at hj
  | cons x l ih =>
   intro j hj
   have e : cellL (x :: l) = [u64V x.1, u64V x.2] ++ cellL l := rfl
   rw [e]
   cases j with
   | zero => exact ⟨rfl, rfl⟩
   | succ j =>
    have := ih j (by simpa using hj)
    rw [show (j + 1) * 2 = j * 2 + 2 by omega]
    exact this
 have q := e l j hj
 exact ⟨g, off, hp, (hc _ (by omega)).trans q.1, by rw [Nat.add_assoc]; exact (hc _ (by omega)).trans q.2⟩
def d0n (x : GSrc) : Int × Int := if 192 < x.cells.length then (2, a0i x.pC 192) else cellsE x.pC [] (x.cells.map Prod.fst)
end
section
open Go.RowKit
theorem j1e (n : Int) (w : World) (h0 : 0 ≤ n) :
  Calls Tryz.prog 112 #[.int .i64 n] w fun e w' => e = .returned (.int .u64 (maskN n)) ∧ ∃ m, w' = w.drewN m := by
 by_cases h : 64 ≤ n
 ·have H := h_ (e1u n h)
  go_enter Tryz.func112, Tryz.ntmps112
  go_wp2
  go_ret
  exact ⟨b0u (by rw [H.out]; rfl), 0, rfl⟩
 ·have H := h_ (e1t n (by omega))
  go_enter Tryz.func112, Tryz.ntmps112
  go_wp2
  go_ret
  exact ⟨b0u H.out, 0, rfl⟩
theorem e0y (x n : Int) (w : World) (hx : 0 ≤ x ∧ x < 18446744073709551616) :
  Calls Tryz.prog 70 #[.int .u64 x, .int .i64 n] w fun e w' => e = .returned (.bool (c0k x n)) ∧ ∃ n, w' = w.drewN n := by
 by_cases hn : n ≤ 0
 ·have H := h_ (show c0k x n = true by unfold c0k; rw [show n.toNat = 0 by omega]; simp [Nat.mod_one])
  go_enter Tryz.func70, Tryz.ntmps70
  go_wp2
  go_ret
  exact ⟨a0l (by rw [H.out]), 0, rfl⟩
 ·have H := h_ (u0w x n hx)
  go_enter Tryz.func70, Tryz.ntmps70
  go_wp2_with (go_at_call 112; refine (j1e _ _ (by omega)).mono ?_; rintro e w' ⟨rfl, m, rfl⟩)
  go_ret
  exact ⟨a0l H.out, _, rfl⟩
end
section
open Go.RowKit
theorem z0n {l : List Int} {k : Nat} (h : l.length ≤ k) : a0i l k = 0 := by unfold a0i; simp [List.getD, List.getElem?_eq_none h]
theorem h0t (w : World) {p : Option Addr} {n c : Nat} {l : List Int} (hA : Rds w 1 p n (l.map i64V)) (hn : n ≤ maxLen) (k : Nat) (hk : k < 4611686018427387904) :
  Calls Tryz.prog 42 #[.slice p n c, .int .i64 (k : Nat)] w fun e w' => e = .returned (.int .i64 (a0i l k)) ∧ ∃ m, w' = w.drewN m := by
 have hl : n = l.length := by have := hA.1; simpa using this.symm
 subst hl
 unfold maxLen at hn
 by_cases hkl : k < l.length
 ·have hk0 : (0 : Int) ≤ k := by omega
  have hkn : (k : Int) < l.length := by omega
  obtain ⟨g, off, rfl, hc⟩ := hA.int_at (k := .i64) hkl
  have H := h_ (show a0i l k = l.getD k 0 from rfl)
  generalize l.getD k 0 = z at *
  clear hA
  go_enter Tryz.func42, Tryz.ntmps42
  go_wp2
  go_ret
  exact ⟨b0u (by rw [H.out]), 0, rfl⟩
 ·have hk0 : (0 : Int) ≤ k := by omega
  have hkn : (l.length : Int) ≤ k := by omega
  have H := h_ (z0n (l := l) (k := k) (by omega))
  clear hA hkl
  go_enter Tryz.func42, Tryz.ntmps42
  go_wp2
  go_ret
  exact ⟨b0u (by rw [H.out]), 0, rfl⟩
theorem b0q {w : World} {T : TypeId} {g : Nat} {a b : Int} (h : Blk w T g [.int .i64 a, .int .i64 b]) (c d : Int) : Blk ((w.setCell ⟨g, 0, none⟩ (.int .i64 c)).setCell ⟨g, 1, none⟩ (.int .i64 d)) T g [.int .i64 c, .int .i64 d] := by
 simpa using (h.set 0 (.int .i64 c)).set 1 (.int .i64 d)
end
section
open Go.RowKit
theorem l1g (t : Nat) : c0k t 3 = decide (t % 8 = 0) := by
 unfold c0k
 simp
theorem z0b (a : Nat) (w : World) (h : a < 18446744073709551616) :
  Calls Tryz.prog 71 #[.int .u64 (a : Nat)] w fun e w' => e = .returned (.int .i64 (f0e a)) ∧ ∃ m, w' = w.drewN m := by
 have hA := l1g a
 have h0 : (0 : Int) ≤ a ∧ (a : Int) < 18446744073709551616 := by omega
 by_cases h8 : a % 8 = 0
 ·have e : c0k a 3 = true := by rw [hA]; simp [h8]
  by_cases h32 : 4294967296 ≤ a
  ·have h32' : (4294967296 : Int) ≤ (a : Int) := by omega
   have H := h_ (show f0e a = 1 by unfold f0e; rw [if_neg (by omega), if_pos h32])
   have HC := h_ (fun w => e0y a 3 w h0)
   rw [e] at HC
   clear h8 h32 hA e h0 h
   generalize (a : Int) = z at *
   go_enter Tryz.func71, Tryz.ntmps71
   go_wp2_with (go_at_call 70; refine (HC.out _).mono ?_; rintro e w' ⟨rfl, m, rfl⟩)
   go_ret
   exact ⟨b0u (by rw [H.out]), _, rfl⟩
  ·have h32' : (a : Int) < 4294967296 := by omega
   have H := h_ (show f0e a = 0 by unfold f0e; rw [if_neg (by omega), if_neg h32])
   have HC := h_ (fun w => e0y a 3 w h0)
   rw [e] at HC
   clear h8 h32 hA e h0 h
   generalize (a : Int) = z at *
   go_enter Tryz.func71, Tryz.ntmps71
   go_wp2_with (go_at_call 70; refine (HC.out _).mono ?_; rintro e w' ⟨rfl, m, rfl⟩)
   go_ret
   exact ⟨b0u (by rw [H.out]), _, rfl⟩
 ·have e : c0k a 3 = false := by rw [hA]; simp [h8]
  have H := h_ (show f0e a = 60 by unfold f0e; rw [if_pos h8])
  have HC := h_ (fun w => e0y a 3 w h0)
  rw [e] at HC
  clear h8 hA e h0 h
  generalize (a : Int) = z at *
  go_enter Tryz.func71, Tryz.ntmps71
  go_wp2_with (go_at_call 70; refine (HC.out _).mono ?_; rintro e w' ⟨rfl, m, rfl⟩)
  go_ret
  exact ⟨b0u (by rw [H.out]), _, rfl⟩
end
section
open Go.RowKit
theorem z0o (w : World) {x : GSrc} {v : SrcV} (h : GRd w x v) :
  Calls Tryz.prog 41 #[.agg (i0f x v).toArray] w fun e w' => e = .returned (.agg #[.int .i64 (d0n x).1, .int .i64 (d0n x).2]) ∧ Below w.heap.size w w' := by
 obtain ⟨p1, c1, e1, R1, hc1⟩ := h.cells
 obtain ⟨p2, c2, e2, R2, _⟩ := h.pC
 have HS := h_ h.sizes.cells
 have HP := h_ h.sizes.pC
 have HLT := h_ h.sizes.clt
 have HB1 := h_ (show Below w.heap.size w ((w.alloc (.cells (i0f x v).toArray 38)).alloc (.cells #[.int .i64 0, .int .i64 0] 41)) from bl_ (bl_ (Below.refl _ _) _) _)
 have HR1 := h_ (R1.below HB1.out)
 have HR2 := h_ (R2.below HB1.out)
 have HM := h_ (show Blk ((w.alloc (.cells (i0f x v).toArray 38)).alloc (.cells #[.int .i64 0, .int .i64 0] 41)) 38 w.heap.size (i0f x v) from (Blk.new w _ _).alloc _)
 have HN := h_ (show Blk ((w.alloc (.cells (i0f x v).toArray 38)).alloc (.cells #[.int .i64 0, .int .i64 0] 41)) 41 (w.heap.size + 1) [.int .i64 0, .int .i64 0] from by simpa using Blk.new (w.alloc (.cells (i0f x v).toArray 38)) 41 [.int .i64 0, .int .i64 0])
 have HT := h_ (show ∀ a : Int × Int, d0n x = a → Ending.returned (.agg #[.int .i64 a.1, .int .i64 a.2]) = Ending.returned (.agg #[.int .i64 (d0n x).1, .int .i64 (d0n x).2]) from fun a e => by rw [e])
 clear R1 R2 h
 obtain ⟨nm, cells, cores, fa, cond, tables, pT, pC, pCo, pI, pCond⟩ := x
 obtain ⟨vC, vCo, k0, k1, k2, k3, k4, k5, vT, vPT, vPC, vPCo, vPI, cvs, ivs⟩ := v
 dsimp only at e1 e2 hc1 HS HP HLT HR1 HR2 HT ⊢
 subst e1 e2
 unfold i0f at *
 dsimp only at HM HN HB1 HR1 HR2 ⊢
 go_enter Tryz.func41, Tryz.ntmps41
 have hb0 := HM.out.lt
 have hb1 := HN.out.lt
 have m1 := HM.out.cell 1
 have m12 := HM.out.cell 12
 have n0 := HN.out.cell 0
 have n1 := HN.out.cell 1
 have f0 := HN.out.free 0
 have f1 := HN.out.free 1
 simp only [gz_, gs_] at m1 m12 n0 n1
 have HQ := h_ (fun (w2 : World) (hb : Below _ _ w2) (k : Nat) (hk : k < 4611686018427387904) => h0t w2 (c := c2) (HR2.out.below hb) HP.out k hk)
 by_cases h192 : 192 < cells.length
 ·have h192' : (192 : Int) < cells.length := by omega
  have HF := h_ (show d0n ⟨nm, cells, cores, fa, cond, tables, pT, pC, pCo, pI, pCond⟩ = (2, a0i pC 192) from by unfold d0n; rw [if_pos h192])
  have HQ2 := h_ (HQ.out _ (Below.refl _ _) 192 (by omega))
  clear h192
  go_wp2_with (go_at_call 42; refine HQ2.out.mono ?_; rintro e w' ⟨rfl, m, rfl⟩)
  refine bodyPost_ret (results_cell_row rfl _ _ (w.heap.size + 1) 41 #[.int .i64 2, .int .i64 (a0i pC 192)] (0, 0) _ rfl (b0q (HN.out.dn _) 2 (a0i pC 192)) Tryz.underlying41 rfl (by kernel_rfl)) rfl ⟨HT.out _ HF.out, ?_⟩
  exact (bd_ HB1.out _).setCell (Nat.le_succ _) _ |>.setCell (Nat.le_succ _) _
 have HK := h_ (show d0n ⟨nm, cells, cores, fa, cond, tables, pT, pC, pCo, pI, pCond⟩ = cellsE pC [] (cells.map Prod.fst) from by unfold d0n; rw [if_neg h192])
 have h192' : (cells.length : Int) ≤ 192 := by omega
 go_wp2_with fail
 generalize (w.alloc (.cells #[.string nm, .slice p1 cells.length c1, vCo, .bool fa, k0, k1, k2, k3, k4, k5, vT, vPT, .slice p2 pC.length c2, vPCo, vPI, .int .i64 pCond] 38)).alloc (.cells #[.int .i64 0, .int .i64 0] 41) = w1 at *
 clear m1 m12 n0 n1 f0 f1 hb0 hb1 h192
 have HSZ := h_ (show w.heap.size + 1 < w1.heap.size from HN.out.lt)
 go_loopw [26] (fun i wr => ∃ k : Nat, k ≤ cells.length ∧ i = .int .i64 k ∧ Hid (cellsE pC ((cells.map Prod.fst).take k) ((cells.map Prod.fst).drop k) = cellsE pC [] (cells.map Prod.fst)) ∧ Below w1.heap.size w1 wr) (fun i _ => cells.length - (intOf i).toNat)
 case atStart => exact ⟨0, by omega, rfl, h_ rfl, Below.refl _ _⟩
 case round =>
  obtain ⟨k, hk, rfl, HE, hbr⟩ := hrel
  have HM2 := h_ (HM.out.below hbr)
  have HN2 := h_ (HN.out.below hbr)
  have HR3 := h_ (HR1.out.below hbr)
  have HBR := h_ hbr
  clear hbr
  have hb0 := HM2.out.lt
  have hb1 := HN2.out.lt
  have m1 := HM2.out.cell 1
  have m12 := HM2.out.cell 12
  have n0 := HN2.out.cell 0
  have n1 := HN2.out.cell 1
  have f0 := HN2.out.free 0
  have f1 := HN2.out.free 1
  simp only [gz_, gs_] at m1 m12 n0 n1
  by_cases hkl : k < cells.length
  ·have hk0 : (0 : Int) ≤ k := by omega
   have hkn : (k : Int) < cells.length := by omega
   obtain ⟨g, off, rfl, hc, hd⟩ := l0u HR3.out hkl
   have HL := h_ (HLT.out _ (show (cells[k]) ∈ cells by simp))
   obtain ⟨z, hz⟩ : ∃ z : Int, z = (((cells.map Prod.fst).getD k 0 : Nat) : Int) := ⟨_, rfl⟩
   obtain ⟨y, hy⟩ : ∃ y : Int, y = (((cells.map Prod.snd).getD k 0 : Nat) : Int) := ⟨_, rfl⟩
   rw [← hz] at hc
   rw [← hy] at hd
   clear hy
   have HZ := h_ hz
   clear hz
   go_wp2_with fail
   have HB2 := h_ (show Below w.heap.size w (wr.alloc (.cells #[.int .u64 z, .int .u64 y] 79)) from bl_ (bt_ HB1.out HBR.out) _)
   have HQ2 := h_ (show Below _ w1 (wr.alloc (.cells #[.int .u64 z, .int .u64 y] 79)) from bl_ HBR.out _)
   have HM3 := h_ (HM2.out.alloc (.cells #[.int .u64 z, .int .u64 y] 79))
   have HN3 := h_ (HN2.out.alloc (.cells #[.int .u64 z, .int .u64 y] 79))
   have HD3 := h_ (Blk.new wr 79 [.int .u64 z, .int .u64 y])
   have HR4 := h_ (HR3.out.below (bl_ (Below.refl _ _) (.cells #[.int .u64 z, .int .u64 y] 79)))
   clear m1 m12 n0 n1 f0 f1 hb0 hb1 hc hd
   dsimp only [List.toArray] at HD3
   generalize wr.alloc (.cells #[.int .u64 z, .int .u64 y] 79) = w2 at *
   have HLW := h_ (show wr.heap.size < w2.heap.size from HD3.out.lt)
   generalize wr.heap.size = t at *
   have hb0 := HM3.out.lt
   have hb1 := HN3.out.lt
   have hb2 := HD3.out.lt
   have m1 := HM3.out.cell 1
   have n0 := HN3.out.cell 0
   have n1 := HN3.out.cell 1
   have f0 := HN3.out.free 0
   have f1 := HN3.out.free 1
   have d0 := HD3.out.cell 0
   simp only [gz_, gs_] at m1 n0 n1 d0
   have HA := h_ (fun w => show Calls Tryz.prog 71 #[.int .u64 z] w fun e w' => e = .returned (.int .i64 (f0e ((cells.map Prod.fst).getD k 0))) ∧ ∃ m, w' = w.drewN m by
    have q := z0b ((cells.map Prod.fst).getD k 0) w (by
     have e : (cells.map Prod.fst).getD k 0 = (cells[k]).1 := by simp [List.getD, List.getElem?_eq_getElem hkl]
     rw [e]; exact HL.out.1)
    rw [← HZ.out] at q
    exact q)
   by_cases ha : f0e ((cells.map Prod.fst).getD k 0) = 0
   ·have hA0 := h_ ha
    rw [ha] at HA
    clear ha
    have hkc : (k : Int) ≤ c1 := by have := hc1; omega
    go_wp2_with (first | (go_at_call 42; refine (HQ.out _ (by first | exact HQ2.out | exact bd_ HQ2.out _) _ (by omega)).mono ?_; rintro e w' ⟨rfl, m, rfl⟩) | (go_at_call 71; refine (HA.out _).mono ?_; rintro e w' ⟨rfl, m, rfl⟩))
    clear m1 n0 n1 f0 f1 d0 hb0 hb1 hb2
    go_loopw [50] (fun i wr => ∃ r : Nat, r ≤ k ∧ i = .int .i64 r ∧ Hid (∀ i, i < r → ¬ (cells.map Prod.fst).getD i 0 = (cells.map Prod.fst).getD k 0) ∧ Below w2.heap.size w2 wr) (fun i _ => k - (intOf i).toNat)
    case atStart => exact ⟨0, by omega, rfl, h_ (fun i hi => absurd hi (by omega)), by repeat (first | exact Below.refl _ _ | refine bd_ ?_ _)⟩
    case round =>
     obtain ⟨r, hr, rfl, HD, hbr⟩ := hrel
     have HN5 := h_ (HN3.out.below hbr)
     have HD5 := h_ (HD3.out.below hbr)
     have HR5 := h_ (HR4.out.below hbr)
     have HB5 := h_ hbr
     clear hbr
     by_cases hrk : r < k
     ·have hr0 : (0 : Int) ≤ r := by omega
      have hrn : (r : Int) < k := by omega
      obtain ⟨g', off', hg, hd, hd2⟩ := l0u HR5.out (show r < cells.length by omega)
      injection hg with hg
      injection hg with hg1 hg2
      subst hg1 hg2
      obtain ⟨q, hq⟩ : ∃ q : Int, q = (((cells.map Prod.fst).getD r 0 : Nat) : Int) := ⟨_, rfl⟩
      obtain ⟨q2, hq2⟩ : ∃ q2 : Int, q2 = (((cells.map Prod.snd).getD r 0 : Nat) : Int) := ⟨_, rfl⟩
      rw [← hq] at hd
      rw [← hq2] at hd2
      have HY := h_ hq
      clear hq hq2
      have HB6 := h_ (show Below w2.heap.size w2 (wr.alloc (.cells #[.int .u64 q, .int .u64 q2] 79)) from bl_ HB5.out _)
      have HN6 := h_ (HN5.out.alloc (.cells #[.int .u64 q, .int .u64 q2] 79))
      have HD6 := h_ (HD5.out.alloc (.cells #[.int .u64 q, .int .u64 q2] 79))
      have HE6 := h_ (Blk.new wr 79 [.int .u64 q, .int .u64 q2])
      have hb1 := HN6.out.lt
      have hb2 := HD6.out.lt
      have hb3 := HE6.out.lt
      have n0 := HN6.out.cell 0
      have n1 := HN6.out.cell 1
      have f0 := HN6.out.free 0
      have f1 := HN6.out.free 1
      have d0 := HD6.out.cell 0
      have c0 := HE6.out.cell 0
      dsimp only [List.toArray] at c0 hb3
      simp only [gz_, gs_] at n0 n1 d0 c0
      by_cases hzy : z = q
      ·have HF := h_ (HK.out.trans (HE.out.symm.trans (r0h (by rw [List.length_map]; exact hkl) (fun h => h hA0.out) r hrk (by have := HZ.out; have := HY.out; omega))))
       subst hzy
       go_wp2_with fail
       refine bodyPost_ret (results_cell_row rfl _ _ (w.heap.size + 1) 41 #[.int .i64 130, .int .i64 (a0i pC k)] (0, 0) _ rfl (b0q HN6.out 130 (a0i pC k)) Tryz.underlying41 rfl (by kernel_rfl)) rfl ⟨HT.out _ HF.out, ?_⟩
       exact (bt_ HB2.out HB6.out).setCell (Nat.le_succ _) _ |>.setCell (Nat.le_succ _) _
      ·have HD2 := h_ (show ∀ i, i < r + 1 → ¬ (cells.map Prod.fst).getD i 0 = (cells.map Prod.fst).getD k 0 from fun i hi => by
        by_cases h : i = r
        ·subst h; have := HZ.out; have := HY.out; omega
        ·exact HD.out i (by omega))
       have hzy' : (z == q) = false := beq_eq_false_iff_ne.2 hzy
       go_wp2_with fail
       go_roundw
       case rel => exact ⟨r + 1, by omega, by go_num, HD2, HB6.out⟩
       case measure => simp [intOf] <;> omega
     ·obtain rfl : r = k := by omega
      have HE2 := h_ ((p0x (p := pC) (by rw [List.length_map]; exact hkl) (fun h => h hA0.out) HD.out).symm.trans HE.out)
      go_wp2_with fail
      go_roundw
      case rel => exact ⟨r + 1, by omega, by go_num, HE2, bt_ HQ2.out HB5.out⟩
      case measure => simp [intOf] <;> omega
   ·have HF := h_ (HK.out.trans (HE.out.symm.trans (p0y (by rw [List.length_map]; exact hkl) ha)))
    have ha2 : (f0e ((cells.map Prod.fst).getD k 0) == 0) = false := beq_eq_false_iff_ne.2 ha
    generalize f0e ((cells.map Prod.fst).getD k 0) = ae at *
    go_wp2_with (first | (go_at_call 42; refine (HQ.out _ (by first | exact HQ2.out | exact bd_ HQ2.out _) _ (by omega)).mono ?_; rintro e w' ⟨rfl, m, rfl⟩) | (go_at_call 71; refine (HA.out _).mono ?_; rintro e w' ⟨rfl, m, rfl⟩))
    refine bodyPost_ret (results_cell_row rfl _ _ (w.heap.size + 1) 41 #[.int .i64 ae, .int .i64 (a0i pC k)] (0, 0) _ rfl (b0q (HN3.out.dn _) ae (a0i pC k)) Tryz.underlying41 rfl (by kernel_rfl)) rfl ⟨HT.out _ HF.out, ?_⟩
    exact (bd_ HB2.out _).setCell (Nat.le_succ _) _ |>.setCell (Nat.le_succ _) _
  ·obtain rfl : k = cells.length := by omega
   have HF := h_ (HK.out.trans (HE.out.symm.trans (by simpa using @r0g pC (cells.map Prod.fst))))
   go_wp2_with fail
   refine bodyPost_ret (results_cell_row rfl _ _ (w.heap.size + 1) 41 #[.int .i64 0, .int .i64 0] (0, 0) _ rfl (b0q HN2.out 0 0) Tryz.underlying41 rfl (by kernel_rfl)) rfl ⟨HT.out _ HF.out, ?_⟩
   exact (bt_ HB1.out HBR.out).setCell (Nat.le_succ _) _ |>.setCell (Nat.le_succ _) _
end
section
open Go.RowKit
section
variable {x : GSrc}
theorem a1z (h : ¬ (b0g x.pT [] x.tables).1 = 0) : b0y x = b0g x.pT [] x.tables := by
 unfold b0y; dsimp only; rw [if_pos h]
theorem n0a (h : (b0g x.pT [] x.tables).1 = 0) (h2 : ¬ (d0n x).1 = 0) : b0y x = d0n x := by
 unfold b0y; dsimp only; rw [if_neg (by rw [h]; decide)]
 unfold d0n at h2 ⊢
 by_cases h3 : 192 < x.cells.length
 ·rw [if_pos h3, if_pos h3]
 ·rw [if_neg h3] at h2; rw [if_neg h3, if_neg h3, if_pos h2]
theorem i0a (h : (b0g x.pT [] x.tables).1 = 0) (h2 : (d0n x).1 = 0) : b0y x = if x.cores.length = 0 ∨ 4 < x.cores.length then (135, a0i x.pCo 4)
  else
   let c := e0q x 0 x.cores
   if ¬ c.1 = 0 then c
   else if 64 < b0m x.cores.length x.cores then (137, a0i x.pCo 0)
   else if ¬ g0w (x.cores.length : Nat) x.cond = 0 then (g0w (x.cores.length : Nat) x.cond, x.pCond)
   else (0, 0) := by
 unfold b0y; dsimp only; rw [if_neg (by rw [h]; decide)]
 unfold d0n at h2
 by_cases h3 : 192 < x.cells.length
 ·rw [if_pos h3] at h2; simp at h2
 ·rw [if_neg h3] at h2; rw [if_neg h3, if_neg (by rw [h2]; decide)]
structure ToCores (x : GSrc) : Prop where
 tab : (b0g x.pT [] x.tables).1 = 0
 cel : (d0n x).1 = 0
theorem ToCores.num (h : ToCores x) (h1 : x.cores.length = 0 ∨ 4 < x.cores.length) : b0y x = (135, a0i x.pCo 4) := by
 rw [i0a h.tab h.cel, if_pos h1]
theorem ToCores.core (h : ToCores x) (h1 : ¬ (x.cores.length = 0 ∨ 4 < x.cores.length)) (h2 : ¬ (e0q x 0 x.cores).1 = 0) : b0y x = e0q x 0 x.cores := by
 rw [i0a h.tab h.cel, if_neg h1]; dsimp only; rw [if_pos h2]
theorem ToCores.ev (h : ToCores x) (h1 : ¬ (x.cores.length = 0 ∨ 4 < x.cores.length)) (h2 : (e0q x 0 x.cores).1 = 0) (h3 : 64 < b0m x.cores.length x.cores) : b0y x = (137, a0i x.pCo 0) := by
 rw [i0a h.tab h.cel, if_neg h1]; dsimp only; rw [if_neg (by rw [h2]; decide), if_pos h3]
theorem ToCores.cond (h : ToCores x) (h1 : ¬ (x.cores.length = 0 ∨ 4 < x.cores.length)) (h2 : (e0q x 0 x.cores).1 = 0) (h3 : ¬ 64 < b0m x.cores.length x.cores) (h4 : ¬ g0w (x.cores.length : Nat) x.cond = 0) : b0y x = (g0w (x.cores.length : Nat) x.cond, x.pCond) := by
 rw [i0a h.tab h.cel, if_neg h1]; dsimp only; rw [if_neg (by rw [h2]; decide), if_neg h3, if_pos h4]
theorem ToCores.ok (h : ToCores x) (h1 : ¬ (x.cores.length = 0 ∨ 4 < x.cores.length)) (h2 : (e0q x 0 x.cores).1 = 0) (h3 : ¬ 64 < b0m x.cores.length x.cores) (h4 : g0w (x.cores.length : Nat) x.cond = 0) : b0y x = (0, 0) := by
 rw [i0a h.tab h.cel, if_neg h1]; dsimp only; rw [if_neg (by rw [h2]; decide), if_neg h3, if_neg (by rw [h4]; decide)]
theorem r0b {k : Nat} (hk : k < x.cores.length) (h : ¬ (d0p x.tables x.cores[k] (a0i x.pCo k) (x.pI.getD k [])).1 = 0) : e0q x k (x.cores.drop k) = d0p x.tables x.cores[k] (a0i x.pCo k) (x.pI.getD k []) := by
 rw [List.drop_eq_getElem_cons hk, e0q, if_neg h]
theorem p0t {k : Nat} (hk : k < x.cores.length) (h : (d0p x.tables x.cores[k] (a0i x.pCo k) (x.pI.getD k [])).1 = 0) : e0q x k (x.cores.drop k) = e0q x (k + 1) (x.cores.drop (k + 1)) := by
 rw [List.drop_eq_getElem_cons hk, e0q, if_pos h]
theorem p0u {k : Nat} (hk : k = x.cores.length) : e0q x k (x.cores.drop k) = (0, 0) := by
 subst hk; rw [List.drop_length]; rfl
end
end
section
open Go Go.RowKit
section
variable {P : Program} {ops : Array Oper} {Q : Exit → Act → World → Prop} {md : Region.Mode} {S : World → Prop}
theorem tk1 {op : Op} {ty : TypeId} {pos : String} {after : Array Edge} {g : Option (Nat × Bool)} {v : Value} {fuel : Nat} {l : Array Bool} {a : Act} {w : World} (i d : Nat)
  (hi : ops[i]? = some ⟨some d, op, ty, pos, after, g⟩) (h : wpAnyH P md ops Q S fuel (l.setIfInBounds i true) (a.put (some d) v) w)
  (hs : Region.noSelect ops = true := by kernel_rfl) (hf : Region.free md ops l i = true := by kernel_rfl) (hr : (Region.ready md ops l).contains i = true := by kernel_rfl)
  (hQ : ∀ c a w, Q (.panic c) (a.put (some d) v) w → Q (.panic c) a w := by exact fun _ _ _ h => h)
  (hw : Region.wanted (⟨some d, op, ty, pos, after, g⟩ : Oper) (yielded ops a.tmps) = true := by rfl)
  (hv : ∀ w, S w → (execOp a.eval ⟨some d, op, ty, pos, after, g⟩).run P w = .ok (.value v) w := by (intro w hSw; (try dsimp only at hSw); go_simp; try with_reducible rfl))
  (hS : S w := by assumption) : wpAnyH P md ops Q S (fuel + 1) l a w :=
 wpAnyH_take hi hs hf hr hQ (Or.inl ⟨hw, hv⟩) hS h
end
theorem tka {α : Type} (l : List α) (i : Nat) (x : α) : l.toArray.setIfInBounds i x = (l.set i x).toArray := by simp
theorem tk0 {α : Type} (a b : α) (l : List α) : (a :: l).set 0 b = b :: l := rfl
theorem tkS {α : Type} (a b : α) (l : List α) (n : Nat) : (a :: l).set (n + 1) b = a :: l.set n b := rfl
end
section
open Go.RowKit
theorem v0q (w : World) {x : GSrc} {v : SrcV} (h : GRd w x v) :
  Calls Tryz.prog 40 #[.agg (i0f x v).toArray] w fun e w' => e = .returned (.agg #[.int .i64 (b0g x.pT [] x.tables).1, .int .i64 (b0g x.pT [] x.tables).2]) ∧ Below w.heap.size w w' := by
 obtain ⟨p1, c1, e1, R1, hc1⟩ := h.tables
 obtain ⟨p2, c2, e2, R2, _⟩ := h.pT
 have HS := h_ h.sizes.tables
 have HP := h_ h.sizes.pT
 have HLT := h_ h.sizes.tlt
 have HB1 := h_ (show Below w.heap.size w ((w.alloc (.cells (i0f x v).toArray 38)).alloc (.cells #[.int .i64 0, .int .i64 0] 41)) from bl_ (bl_ (Below.refl _ _) _) _)
 have HR1 := h_ (R1.below HB1.out)
 have HR2 := h_ (R2.below HB1.out)
 have HM := h_ (show Blk ((w.alloc (.cells (i0f x v).toArray 38)).alloc (.cells #[.int .i64 0, .int .i64 0] 41)) 38 w.heap.size (i0f x v) from (Blk.new w _ _).alloc _)
 have HN := h_ (show Blk ((w.alloc (.cells (i0f x v).toArray 38)).alloc (.cells #[.int .i64 0, .int .i64 0] 41)) 41 (w.heap.size + 1) [.int .i64 0, .int .i64 0] from by simpa using Blk.new (w.alloc (.cells (i0f x v).toArray 38)) 41 [.int .i64 0, .int .i64 0])
 have HT := h_ (show ∀ a : Int × Int, b0g x.pT [] x.tables = a → Ending.returned (.agg #[.int .i64 a.1, .int .i64 a.2]) = Ending.returned (.agg #[.int .i64 (b0g x.pT [] x.tables).1, .int .i64 (b0g x.pT [] x.tables).2]) from fun a e => by rw [e])
 clear R1 R2 h
 obtain ⟨nm, cells, cores, fa, cond, tables, pT, pC, pCo, pI, pCond⟩ := x
 obtain ⟨vC, vCo, k0, k1, k2, k3, k4, k5, vT, vPT, vPC, vPCo, vPI, cvs, ivs⟩ := v
 dsimp only at e1 e2 hc1 HS HP HLT HR1 HR2 HT ⊢
 subst e1 e2
 unfold i0f at *
 dsimp only at HM HN HB1 HR1 HR2 ⊢
 go_enter Tryz.func40, Tryz.ntmps40
 have hb0 := HM.out.lt
 have hb1 := HN.out.lt
 have m10 := HM.out.cell 10
 have m11 := HM.out.cell 11
 have n0 := HN.out.cell 0
 have n1 := HN.out.cell 1
 have f0 := HN.out.free 0
 have f1 := HN.out.free 1
 simp only [gz_, gs_] at m10 m11 n0 n1
 go_wp2_with fail
 generalize (w.alloc (.cells #[.string nm, vC, vCo, .bool fa, k0, k1, k2, k3, k4, k5, .slice p1 tables.length c1, .slice p2 pT.length c2, vPC, vPCo, vPI, .int .i64 pCond] 38)).alloc (.cells #[.int .i64 0, .int .i64 0] 41) = w1 at *
 have HQ := h_ (fun (j : Nat) (k : Nat) (hk : k < 4611686018427387904) => h0t (w1.drewN j) (c := c2) (HR2.out.dn j) HP.out k hk)
 clear hb0 hb1
 have HSZ := h_ (show w.heap.size + 1 < w1.heap.size from HN.out.lt)
 have H0 := h_ (show b0g pT (tables.take 0) (tables.drop 0) = b0g pT [] tables from rfl)
 go_loopw [11] (fun i wr => ∃ k : Nat, k ≤ tables.length ∧ i = .int .i64 k ∧ Hid (b0g pT (tables.take k) (tables.drop k) = b0g pT [] tables) ∧ ∃ j, wr = w1.drewN j) (fun i _ => tables.length - (intOf i).toNat)
 case atStart => exact ⟨0, by omega, rfl, H0, 0, rfl⟩
 case round =>
  obtain ⟨k, hk, rfl, HE, j, rfl⟩ := hrel
  have hS2 := HS.out
  by_cases hkl : k < tables.length
  ·have hk0 : (0 : Int) ≤ k := by omega
   have hkn : (k : Int) < tables.length := by omega
   obtain ⟨g, off, rfl, hc⟩ := k0g HR1.out hkl
   have HL := h_ (HLT.out _ (show tables.getD k 0 ∈ tables by simp [List.getD, List.getElem?_eq_getElem hkl]))
   have hz0 : ∃ z : Int, z = ((tables.getD k 0 : Nat) : Int) := ⟨_, rfl⟩
   obtain ⟨z, hz⟩ := hz0
   rw [← hz] at hc
   have HA := h_ (fun w => e0y z 12 w (by rw [hz]; have := HL.out; omega))
   have HBS := h_ (show n0t (tables.getD k 0) = (c0k z 12 && decide (tables.getD k 0 < 4294967296)) from by rw [k1s, hz])
   have HZ := h_ hz
   clear hz
   have big : ∀ b : Bool, c0k z 12 = b → (b = false ∨ ¬ tables.getD k 0 < 4294967296) → b0g pT [] tables = (133, a0i pT k) := fun b hb h => by
    refine HE.out.symm.trans (n0h hkl ?_)
    rw [HBS.out, hb]
    rcases h with h | h
    ·rw [h]; rfl
    ·rw [decide_eq_false h, Bool.and_false]
   cases ha : c0k z 12
   ·have HF := h_ (big _ ha (.inl rfl))
    rw [ha] at HA
    clear ha big
    go_wp2_with (first | (go_at_call 42; refine (HQ.out _ _ (by omega)).mono ?_; rintro e w' ⟨rfl, m, rfl⟩) | (go_at_call 70; refine (HA.out _).mono ?_; rintro e w' ⟨rfl, m, rfl⟩))
    refine bodyPost_ret (results_cell_row rfl _ _ (w.heap.size + 1) 41 #[.int .i64 133, .int .i64 (a0i pT k)] (0, 0) _ rfl (b0q (HN.out.dn _) 133 (a0i pT k)) Tryz.underlying41 rfl (by kernel_rfl)) rfl ⟨HT.out _ HF.out, ?_⟩
    exact (bd_ HB1.out _).setCell (Nat.le_succ _) _ |>.setCell (Nat.le_succ _) _
   by_cases h32 : ¬ tables.getD k 0 < 4294967296
   ·have HF := h_ (big _ ha (.inr h32))
    rw [ha] at HA
    have hz32 : (4294967296 : Int) ≤ z := by have := HZ.out; omega
    clear ha big h32
    go_wp2_with (first | (go_at_call 42; refine (HQ.out _ _ (by omega)).mono ?_; rintro e w' ⟨rfl, m, rfl⟩) | (go_at_call 70; refine (HA.out _).mono ?_; rintro e w' ⟨rfl, m, rfl⟩))
    refine bodyPost_ret (results_cell_row rfl _ _ (w.heap.size + 1) 41 #[.int .i64 133, .int .i64 (a0i pT k)] (0, 0) _ rfl (b0q (HN.out.dn _) 133 (a0i pT k)) Tryz.underlying41 rfl (by kernel_rfl)) rfl ⟨HT.out _ HF.out, ?_⟩
    exact (bd_ HB1.out _).setCell (Nat.le_succ _) _ |>.setCell (Nat.le_succ _) _
   have HOK := h_ (show ¬ n0t (tables.getD k 0) = false by rw [HBS.out, ha, decide_eq_true (Decidable.of_not_not h32)]; simp)
   rw [ha] at HA
   have hz32 : z < (4294967296 : Int) := by have := HZ.out; omega
   have hkc : (k : Int) ≤ c1 := by have := hc1; omega
   clear ha big h32
   go_wp2_with (first | (go_at_call 42; refine (HQ.out _ _ (by omega)).mono ?_; rintro e w' ⟨rfl, m, rfl⟩) | (go_at_call 70; refine (HA.out _).mono ?_; rintro e w' ⟨rfl, m, rfl⟩))
   have HC := h_ hc
   clear hc
   go_loopw [35] (fun i wr => ∃ r : Nat, r ≤ k ∧ i = .int .i64 r ∧ Hid (∀ i, i < r → ¬ tables.getD i 0 = tables.getD k 0) ∧ ∃ j, wr = w1.drewN j) (fun i _ => k - (intOf i).toNat)
   case atStart => exact ⟨0, by omega, rfl, h_ (fun i hi => absurd hi (by omega)), _, rfl⟩
   case round =>
    obtain ⟨r, hr, rfl, HD, j2, rfl⟩ := hrel
    by_cases hrk : r < k
    ·have hr0 : (0 : Int) ≤ r := by omega
     have hrn : (r : Int) < k := by omega
     obtain ⟨g', off', hg, hd⟩ := k0g HR1.out (show r < tables.length by omega)
     injection hg with hg
     injection hg with hg1 hg2
     subst hg1 hg2
     obtain ⟨y, hy⟩ : ∃ y : Int, y = ((tables.getD r 0 : Nat) : Int) := ⟨_, rfl⟩
     rw [← hy] at hd
     have HY := h_ hy
     clear hy
     by_cases hzy : z = y
     ·have HF := h_ (HE.out.symm.trans (o0u hkl HOK.out r hrk (by have := HZ.out; have := HY.out; omega)))
      subst hzy
      go_wp2_with fail
      refine bodyPost_ret (results_cell_row rfl _ _ (w.heap.size + 1) 41 #[.int .i64 132, .int .i64 (a0i pT k)] (0, 0) _ rfl (b0q (HN.out.dn _) 132 (a0i pT k)) Tryz.underlying41 rfl (by kernel_rfl)) rfl ⟨HT.out _ HF.out, ?_⟩
      exact (bd_ HB1.out _).setCell (Nat.le_succ _) _ |>.setCell (Nat.le_succ _) _
     ·have HD2 := h_ (show ∀ i, i < r + 1 → ¬ tables.getD i 0 = tables.getD k 0 from fun i hi => by
       by_cases h : i = r
       ·subst h; have := HZ.out; have := HY.out; omega
       ·exact HD.out i (by omega))
      have hzy' : (z == y) = false := by simp [hzy]
      go_wp2_with fail
      go_roundw
      case rel => exact ⟨r + 1, by omega, by go_num, HD2, _, rfl⟩
      case measure => simp [intOf] <;> omega
    ·obtain rfl : r = k := by omega
     have HE2 := h_ ((n0g hkl HOK.out HD.out).symm.trans HE.out)
     go_wp2_with fail
     go_roundw
     case rel => exact ⟨r + 1, by omega, by go_num, HE2, _, rfl⟩
     case measure => simp [intOf] <;> omega
  ·obtain rfl : k = tables.length := by omega
   have HF := h_ (HE.out.symm.trans o0t)
   go_wp2_with fail
   refine bodyPost_ret (results_cell_row rfl _ _ (w.heap.size + 1) 41 #[.int .i64 0, .int .i64 0] (0, 0) _ rfl (b0q (HN.out.dn _) 0 0) Tryz.underlying41 rfl (by kernel_rfl)) rfl ⟨HT.out _ HF.out, ?_⟩
   exact (bd_ HB1.out _).setCell (Nat.le_succ _) _ |>.setCell (Nat.le_succ _) _
end
section
open Go.RowKit
abbrev x0w (op d n m imm kind : Int) : Value := .agg #[.int .i64 op, .int .i64 d, .int .i64 n, .int .i64 m, .int .i64 imm, .int .i64 kind]
def q0a (op : Int) : Bool := op == 15 || op == 16 || op == 17
def e1v (op : Int) : Bool := op == 2 || op == 4
def x0f (op : Int) : Bool := op == 3 || op == 5
theorem x0r (op d n m imm kind : Int) (w : World) :
  Calls Tryz.prog 115 #[x0w op d n m imm kind] w fun e w' => e = .returned (.bool (e1v op)) ∧ Below w.heap.size w w' := by
 cases h1 : op == 2 <;> cases h2 : op == 4 <;> (
  have H := h_ (show e1v op = ((op == 2) || (op == 4)) from rfl)
  go_enter Tryz.func115, Tryz.ntmps115
  go_wp2
  go_ret
  exact ⟨a0l (by rw [H.out, h1, h2]; rfl), bl_ (Below.refl _ _) _⟩)
theorem c1l (op d n m imm kind : Int) (w : World) :
  Calls Tryz.prog 116 #[x0w op d n m imm kind] w fun e w' => e = .returned (.bool (x0f op)) ∧ Below w.heap.size w w' := by
 cases h1 : op == 3 <;> cases h2 : op == 5 <;> (
  have H := h_ (show x0f op = ((op == 3) || (op == 5)) from rfl)
  go_enter Tryz.func116, Tryz.ntmps116
  go_wp2
  go_ret
  exact ⟨a0l (by rw [H.out, h1, h2]; rfl), bl_ (Below.refl _ _) _⟩)
theorem j0d (op d n m imm kind : Int) (w : World) :
  Calls Tryz.prog 113 #[x0w op d n m imm kind] w fun e w' => e = .returned (.bool (q0a op)) ∧ Below w.heap.size w w' := by
 cases h1 : op == 15 <;> cases h2 : op == 16 <;> cases h3 : op == 17 <;> (
  have H := h_ (show q0a op = ((op == 15) || (op == 16) || (op == 17)) from rfl)
  go_enter Tryz.func113, Tryz.ntmps113
  go_wp2
  go_ret
  exact ⟨a0l (by rw [H.out, h1, h2, h3]; rfl), bl_ (Below.refl _ _) _⟩)
end
end Go.Proofs.YtmnojnopejhebaaGreat
