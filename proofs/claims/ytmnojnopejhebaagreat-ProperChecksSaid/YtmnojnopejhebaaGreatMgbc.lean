/- Each printed line is read as what it says: plain. -/
import Derived.Test.YtmnojnopejhebaaGreatMgag
import Derived.Test.YtmnojnopejhebaaGreatMgaq
import Derived.Test.YtmnojnopejhebaaGreatMgaw
namespace Go.Proofs.YtmnojnopejhebaaGreat
set_option linter.unusedVariables false
set_option linter.unusedSimpArgs false
set_option maxRecDepth 100000
set_option maxHeartbeats 25600000
section
open Go.RowKit
end
section
open Go.RowKit
end
section
open Go.RowKit
def k0b : List UInt8 := [116, 101, 115, 116]
def a0s : List UInt8 := [116, 97, 98, 108, 101]
def c0v : List UInt8 := [99, 101, 108, 108]
def h0w : List UInt8 := [99, 111, 114, 101]
def m0t : List UInt8 := [115, 112, 97, 99, 101]
def p0i : List UInt8 := [114, 101, 103]
def c0u : List UInt8 := [104, 97, 110, 100, 108, 101, 114]
def j0p : List UInt8 := [101, 120, 105, 115, 116, 115]
def j0o : List UInt8 := [102, 111, 114, 97, 108, 108]
theorem l1o (n : Nat) (hn : n < 65536) : pcOK (2, intL (n : Nat)) ∧ b0h (intL (n : Nat)) = (n, 0) := by
 have e : intL (n : Nat) = txt 10 n := by unfold intL; rw [if_neg (by omega)]; rfl
 obtain ⟨h1, _, h3⟩ := h0n 10 (by decide) (by decide) (n + 1) n (by omega)
 have hl := o0r 10 (by decide) 4 n (by omega)
 have hp := f1s n (by omega)
 have hd : ∀ d, d < 10 → letU (dg d) = true ∧ f0y ((dg d).toNat : Int) = true := by decide +kernel
 rw [e]
 refine ⟨.inr (.inr (.inr ⟨rfl, List.all_eq_true.2 fun c hc => ?_, by show (txt 10 n).length ≤ 24; omega, ?_, by show (b0h (txt 10 n)).2 = 0; rw [hp]⟩)), hp⟩
 ·obtain ⟨d, hd1, rfl⟩ := h1 c hc
  exact (hd d (by omega)).1
 ·cases hq : txt 10 n with
  | nil => exact absurd hq h3
  | cons c l =>
   obtain ⟨d, hd1, e2⟩ := h1 c (by rw [hq]; simp)
   exact ⟨c, l, rfl, by rw [e2]; exact (hd d (by omega)).2⟩
def l0v (name : List UInt8) : List Pc := [(0, [32]), (1, name)]
def b0l (v : Nat) : List Pc := [(0, [32]), (2, hexL v)]
def d0j (a v : Nat) : List Pc := [(0, [32]), (2, hexL a), (0, [32]), (3, [61]), (0, [32]), (2, hexL v)]
def n0j (i sp tb : Nat) : List Pc := (0, [32]) :: (2, intL (i : Nat)) :: ((if sp = 0 then [] else [(0, [32]), (1, m0t), (0, [32]), (2, intL (sp : Nat))]) ++ [(0, [32]), (1, a0s), (0, [32]), (2, hexL tb)])
def z0l (n v : Nat) : List Pc := [(0, [32]), (1, regL (n : Nat)), (0, [32]), (3, [61]), (0, [32]), (2, hexL v)]
end
end Go.Proofs.YtmnojnopejhebaaGreat
