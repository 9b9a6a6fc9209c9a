/- Is a test tried? -/
import Derived.Test.YtmnojnopejhebaaGreatMgad
import Derived.Test.YtmnojnopejhebaaGreatMgai
import Derived.Test.YtmnojnopejhebaaGreatMgaj
import Derived.Test.YtmnojnopejhebaaGreatMgbk
namespace Go.Proofs.YtmnojnopejhebaaGreat
set_option linter.unusedVariables false
set_option linter.unusedSimpArgs false
set_option maxRecDepth 100000
set_option maxHeartbeats 25600000
section
open Go.RowKit Go.WideShapes Go.ChangeShapes
theorem t0y {α : Type} (enc : α → List Value) (k : Nat) (hk : ∀ x, (enc x).length = k) : ∀ xs : List α, (xs.flatMap enc).length = xs.length * k
 | [] => by simp
 | x :: xs => by rw [List.flatMap_cons, List.length_append, hk, t0y enc k hk xs, List.length_cons, Nat.succ_mul]; omega
theorem f1n {α : Type} (enc : α → List Value) (k : Nat) (hk : ∀ x, (enc x).length = k) : ∀ (xs : List α) (i j : Nat) (hi : i < xs.length), j < k → (xs.flatMap enc)[i * k + j]? = (enc xs[i])[j]?
 | x :: xs, 0, j, hi, hj => by
  rw [List.flatMap_cons, List.getElem?_append_left (by rw [hk]; omega), Nat.zero_mul, Nat.zero_add]; rfl
 | x :: xs, i + 1, j, hi, hj => by
  rw [List.flatMap_cons, List.getElem?_append_right (by rw [hk, Nat.succ_mul]; omega), hk, show (i + 1) * k + j - k = i * k + j by rw [Nat.succ_mul]; omega]
  exact f1n enc k hk xs i j (by simpa using hi) hj
theorem e1y {α : Type} {P : Nat → α → Prop} : ∀ {n : Nat}, (∀ i, i < n → ∃ x, P i x) → ∃ xs : List α, xs.length = n ∧ ∀ (i : Nat) (hi : i < xs.length), P i xs[i]
 | 0, _ => ⟨[], rfl, fun i hi => absurd hi (Nat.not_lt_zero _)⟩
 | n + 1, h => by
  obtain ⟨xs, hl, hx⟩ := e1y (n := n) (fun i hi => h i (by omega))
  obtain ⟨x, hp⟩ := h n (Nat.lt_succ_self _)
  refine ⟨xs ++ [x], by simp [hl], fun i hi => ?_⟩
  by_cases hin : i < xs.length
  ·rw [List.getElem_append_left hin]; exact hx i hin
  ·obtain rfl : i = xs.length := by rw [List.length_append] at hi; simp at hi; omega
   rw [List.getElem_append_right (Nat.le_refl _)]
   simpa [hl] using hp
theorem c1o {w : World} {a : Addr} {v : Value} (h : w.cell? ((a.add 0).add 0) = some v) : a.spot = none := by
 simp only [Addr.add, if_true] at h
 unfold World.cell? at h
 cases hs : a.spot with
 | none => rfl
 | some q => rw [hs] at h; split at h <;> simp at h
theorem rds_of {α : Type} (enc : α → List Value) (k : Nat) (hk : ∀ x, (enc x).length = k) (hk0 : 0 < k) {w : World} {a : Addr} {n : Nat} {G : α → Prop} (h : ∀ i, i < n → ∃ x, G x ∧ ∀ j, j < k → w.cell? ((a.add (i * k)).add j) = (enc x)[j]?) :
  ∃ xs : List α, xs.length = n ∧ Rds w k (some a) n (xs.flatMap enc) ∧ ∀ x ∈ xs, G x := by
 obtain ⟨xs, hl, hx⟩ := e1y h
 refine ⟨xs, hl, ⟨by rw [t0y enc k hk, hl], fun hn => ?_⟩, fun x hm => ?_⟩
 ·have hsp : a.spot = none := by
   have c0 := (hx 0 (by omega)).2 0 hk0
   rw [Nat.zero_mul, List.getElem?_eq_getElem (by rw [hk]; exact hk0)] at c0
   exact c1o c0
  obtain ⟨b, off, sp⟩ := a
  simp only at hsp
  subst hsp
  refine ⟨b, off, rfl, fun j hj => ?_⟩
  have hd : j / k < n := Nat.div_lt_of_lt_mul (by rw [Nat.mul_comm]; exact hj)
  have hm : j % k < k := Nat.mod_lt _ hk0
  have e : j = j / k * k + j % k := by rw [Nat.mul_comm]; exact (Nat.div_add_mod j k).symm
  have c := (hx (j / k) (by omega)).2 (j % k) hm
  rw [addr_add, addr_add, Nat.add_assoc, ← e, ← f1n enc k hk xs (j / k) (j % k) (by omega) hm, ← e] at c
  exact c
 ·obtain ⟨i, hi, rfl⟩ := List.getElem_of_mem hm
  exact (hx i hi).1
theorem m1s (w : World) (k : Nat) : RdV w k (.slice none 0 0) 0 [] := ⟨none, 0, rfl, ⟨by simp, fun h => absurd h (Nat.lt_irrefl _)⟩, Nat.le_refl _⟩
theorem r0y {α : Type} (f : α → Value) : ∀ xs : List α, xs.flatMap (fun n => [f n]) = xs.map f
 | [] => rfl
 | x :: xs => by rw [List.flatMap_cons, r0y f xs]; rfl
theorem r0n {n : Int} (h : (Lit.int .u64 n).wf = true) : 0 ≤ n ∧ n < 18446744073709551616 := by
 have h' : (0 : Int) ≤ n ∧ n ≤ 18446744073709551615 := by
  unfold Lit.wf at h
  simp only [Bool.and_eq_true, decide_eq_true_eq] at h
  exact h
 omega
section
variable {P : Program} {w : World} {t e : TypeId} {cs : List Value}
theorem h0p {α : Type} (enc : α → List Value) (k : Nat) (hk : ∀ x, (enc x).length = k) (hk0 : 0 < k) (G : α → Prop) (ht : P.underlying t = some (.slice e)) (hc : P.cellsOf e = k) (he : ∀ es : List Value, es.length = k → d0r P w e es → ∃ x, G x ∧ es = enc x) (h : d0r P w t cs) :
  ∃ (xs : List α) (v : Value), cs = [v] ∧ RdV w k v xs.length (xs.flatMap enc) ∧ xs.length ≤ maxLen ∧ ∀ x ∈ xs, G x := by
 rcases v0s ht h with rfl | ⟨a, len, cap, rfl, hlc, hcm, hi⟩
 ·exact ⟨[], _, rfl, m1s w k, Nat.zero_le _, fun x hx => by cases hx⟩
 ·obtain ⟨xs, hl, hr, hg⟩ := rds_of enc k hk hk0 (w := w) (a := a) (n := len) (G := G) (fun i hin => by
   obtain ⟨es, h1, h2, h3⟩ := hi i hin
   rw [hc] at h1 h2
   obtain ⟨x, hx, rfl⟩ := he es h1 h3
   exact ⟨x, hx, h2⟩)
  subst hl
  exact ⟨xs, _, rfl, ⟨some a, cap, rfl, hr, hlc⟩, by omega, hg⟩
theorem q0o (ht : P.underlying t = some (.slice e)) (he : P.underlying e = some (.int .u64)) (hc : P.cellsOf e = 1) (h : d0r P w t cs) :
  ∃ (xs : List Nat) (v : Value), cs = [v] ∧ RdV w 1 v xs.length (xs.map u64V) ∧ xs.length ≤ maxLen ∧ ∀ x ∈ xs, x < 18446744073709551616 := by
 obtain ⟨xs, v, h1, h2, h3, h4⟩ := h0p (fun n : Nat => [u64V n]) 1 (fun _ => rfl) (by decide) (fun n => n < 18446744073709551616) ht hc (fun es hl ho => by
  obtain ⟨n, rfl, hw⟩ := c0e he ho
  obtain ⟨q1, q2⟩ := r0n hw
  exact ⟨n.toNat, by omega, by unfold u64V; rw [Int.toNat_of_nonneg q1]⟩) h
 refine ⟨xs, v, h1, ?_, h3, h4⟩
 rw [r0y u64V] at h2
 exact h2
theorem z0w (ht : P.underlying t = some (.slice e)) (he : P.underlying e = some (.int .i64)) (hc : P.cellsOf e = 1) (h : d0r P w t cs) :
  ∃ (xs : List Int) (v : Value), cs = [v] ∧ RdV w 1 v xs.length (xs.map i64V) ∧ xs.length ≤ maxLen := by
 obtain ⟨xs, v, h1, h2, h3, _⟩ := h0p (fun n : Int => [i64V n]) 1 (fun _ => rfl) (by decide) (fun _ => True) ht hc (fun es hl ho => by
  obtain ⟨n, rfl, hw⟩ := c0e he ho
  exact ⟨n, trivial, rfl⟩) h
 refine ⟨xs, v, h1, ?_, h3⟩
 rw [r0y i64V] at h2
 exact h2
end
end
section
open Go.RowKit Go.WideShapes Go.ChangeShapes
theorem wf_i64 {n : Int} (h : (Lit.int .i64 n).wf = true) : I64 n := by
 have h' := h
 unfold Lit.wf at h'
 simp only [Bool.and_eq_true, decide_eq_true_eq] at h'
 exact h'
theorem wf_u64 {n : Int} (h : (Lit.int .u64 n).wf = true) : 0 ≤ n ∧ n < 18446744073709551616 := by
 have h' : (0 : Int) ≤ n ∧ n ≤ 18446744073709551615 := by
  unfold Lit.wf at h
  simp only [Bool.and_eq_true, decide_eq_true_eq] at h
  exact h
 omega
theorem e1z {α : Type} {l : List α} (h : l.length = 6) : ∃ a b c d e f, l = [a, b, c, d, e, f] := by
 match l, h with
 | [a, b, c, d, e, f], _ => exact ⟨a, b, c, d, e, f, rfl⟩
theorem c1v {w : World} {S : Nat → Prop} {p : Option Addr} (g off : Nat) (hp : p = some ⟨g, off, none⟩) (hS : S g) : ∀ (n i : Nat), (∀ j, j < n → ∃ es t, es.length = 6 ∧ (∀ x, x < 6 → w.cell? ⟨g, off + (i + j) * 6 + x, none⟩ = es[x]?) ∧ CT.At w S t es) → ∃ ts : List CT, ts.length = n ∧ CT.Row w S p i ts
 | 0, i, _ => ⟨[], rfl, by unfold CT.Row; trivial⟩
 | n + 1, i, h => by
  obtain ⟨es, t, h1, h2, h3⟩ := h 0 (by omega)
  obtain ⟨ts, h4, h5⟩ := c1v g off hp hS n (i + 1) (fun j hj => by
   obtain ⟨es, t, h1, h2, h3⟩ := h (j + 1) (by omega)
   exact ⟨es, t, h1, fun x hx => by rw [show i + 1 + j = i + (j + 1) by omega]; exact h2 x hx, h3⟩)
  refine ⟨t :: ts, by simp [h4], ?_⟩
  unfold CT.Row
  exact ⟨⟨g, off, es, hp, hS, h1, by simpa using h2, h3⟩, h5⟩
theorem f1y {w : World} : ∀ (n fuel : Nat), fuel ≤ n → ∀ cs : List Value, f0q Tryz.prog w fuel 29 cs → ∃ t, CT.At w (fun _ => True) t cs
 | 0, fuel, hf, cs, h => by
  obtain ⟨_, m, hm, _⟩ := j0l Tryz.underlying29 h
  omega
 | n + 1, fuel, hf, cs, h => by
  obtain ⟨hl, m, hm, hi⟩ := j0l Tryz.underlying29 h
  have e6 : Tryz.prog.cellsOf 29 = 6 := by kernel_rfl
  have e1 : Tryz.prog.cellsOf 3 = 1 := by kernel_rfl
  have e2 : Tryz.prog.cellsOf 26 = 1 := by kernel_rfl
  have e3 : Tryz.prog.cellsOf 27 = 1 := by kernel_rfl
  rw [e6] at hl
  obtain ⟨c0, c1, c2, c3, c4, c5, rfl⟩ := e1z hl
  have f0 : f0q Tryz.prog w m 3 (List.take (Tryz.prog.cellsOf 3) (List.drop 0 [c0, c1, c2, c3, c4, c5])) := hi 0 _ rfl
  have f1 : f0q Tryz.prog w m 3 (List.take (Tryz.prog.cellsOf 3) (List.drop 1 [c0, c1, c2, c3, c4, c5])) := hi 1 _ rfl
  have f2 : f0q Tryz.prog w m 3 (List.take (Tryz.prog.cellsOf 3) (List.drop 2 [c0, c1, c2, c3, c4, c5])) := hi 2 _ rfl
  have f3 : f0q Tryz.prog w m 26 (List.take (Tryz.prog.cellsOf 26) (List.drop 3 [c0, c1, c2, c3, c4, c5])) := hi 3 _ rfl
  have f4 : f0q Tryz.prog w m 26 (List.take (Tryz.prog.cellsOf 26) (List.drop 4 [c0, c1, c2, c3, c4, c5])) := hi 4 _ rfl
  have f5 : f0q Tryz.prog w m 27 (List.take (Tryz.prog.cellsOf 27) (List.drop 5 [c0, c1, c2, c3, c4, c5])) := hi 5 _ rfl
  rw [e1] at f0 f1 f2
  rw [e2] at f3 f4
  rw [e3] at f5
  simp only [List.drop_zero, List.drop_succ_cons, List.take_succ_cons, List.take_zero] at f0 f1 f2 f3 f4 f5
  obtain ⟨k, g0, w0⟩ := c0e Tryz.underlying3 f0.opens
  obtain ⟨c, g1, w1⟩ := c0e Tryz.underlying3 f1.opens
  obtain ⟨r, g2, w2⟩ := c0e Tryz.underlying3 f2.opens
  obtain ⟨a, g3, w3⟩ := c0e Tryz.underlying26 f3.opens
  obtain ⟨v, g4, w4⟩ := c0e Tryz.underlying26 f4.opens
  injection g0 with g0
  injection g1 with g1
  injection g2 with g2
  injection g3 with g3
  injection g4 with g4
  subst g0 g1 g2 g3 g4
  have w0 := wf_i64 w0
  have w1 := wf_i64 w1
  have w2 := wf_i64 w2
  have w3 := wf_u64 w3
  have w4 := wf_u64 w4
  obtain ⟨a, rfl⟩ := Int.eq_ofNat_of_zero_le w3.1
  obtain ⟨v, rfl⟩ := Int.eq_ofNat_of_zero_le w4.1
  have hav : a < 18446744073709551616 ∧ v < 18446744073709551616 := by omega
  rcases t0r Tryz.underlying27 f5 with e | ⟨ad, len, cap, m2, hm2, e, hlc, hcm, he⟩
  ·injection e with e
   subst e
   refine ⟨.mk k c r a v [], ?_⟩
   unfold CT.At
   exact ⟨none, 0, rfl, Nat.le_refl _, by decide, hav.1, ⟨hav.2, w0, w1, w2⟩, by unfold CT.Row; trivial⟩
  ·injection e with e
   subst e
   rw [e6] at he
   have hts : ∃ ts : List CT, ts.length = len ∧ CT.Row w (fun _ => True) (some ad) 0 ts := by
    rcases Nat.eq_zero_or_pos len with h0 | h0
    ·exact ⟨[], by simp [h0], by unfold CT.Row; trivial⟩
    ·have hsp : ad.spot = none := by
      obtain ⟨es, hl, hcell, hes⟩ := he 0 h0
      have c0 := hcell 0 (by omega)
      obtain ⟨y0, y1, y2, y3, y4, y5, rfl⟩ := e1z hl
      simp only [Addr.add, Nat.zero_mul, if_true, gz_] at c0
      unfold World.cell? at c0
      cases hs : ad.spot with
      | none => rfl
      | some q => rw [hs] at c0; split at c0 <;> simp at c0
     obtain ⟨b, off, sp⟩ := ad
     simp only at hsp
     subst hsp
     refine c1v b off rfl trivial len 0 (fun j hj => ?_)
     obtain ⟨es, hl, hcell, hes⟩ := he j hj
     obtain ⟨t, ht⟩ := f1y n m2 (by omega) es hes
     refine ⟨es, t, hl, fun x hx => ?_, ht⟩
     have := hcell x hx
     rw [addr_add, addr_add] at this
     rw [Nat.zero_add]; exact this
   obtain ⟨ts, hl, hr⟩ := hts
   refine ⟨.mk k c r a v ts, ?_⟩
   unfold CT.At
   exact ⟨some ad, cap, by rw [hl], by omega, hcm, hav.1, ⟨hav.2, w0, w1, w2⟩, hr⟩
end
section
open Go.RowKit Go.WideShapes Go.ChangeShapes
theorem l1r {α : Type} {l : List α} (h : l.length = 5) : ∃ a b c d e, l = [a, b, c, d, e] := by
 match l, h with
 | [a, b, c, d, e], _ => exact ⟨a, b, c, d, e, rfl⟩
theorem n1j {α : Type} {l : List α} (h : l.length = 10) : ∃ a b c d e f g i j k, l = [a, b, c, d, e, f, g, i, j, k] := by
 match l, h with
 | [a, b, c, d, e, f, g, i, j, k], _ => exact ⟨a, b, c, d, e, f, g, i, j, k, rfl⟩
theorem m0i : Tryz.prog.cellsOf 3 = 1 := by kernel_rfl
theorem m0h : Tryz.prog.cellsOf 26 = 1 := by kernel_rfl
theorem w0p : Tryz.prog.cellsOf 91 = 6 := by kernel_rfl
theorem b1e : Tryz.prog.cellsOf 79 = 2 := by kernel_rfl
theorem b1c : Tryz.prog.cellsOf 82 = 5 := by kernel_rfl
theorem b1d : Tryz.prog.cellsOf 29 = 6 := by kernel_rfl
theorem b1b : Tryz.prog.cellsOf 31 = 10 := by kernel_rfl
theorem u0o : Tryz.prog.cellsOf 36 = 5 := by kernel_rfl
theorem g1a : Tryz.prog.cellsOf 9 = 1 := by kernel_rfl
theorem b1f : Tryz.prog.cellsOf 4 = 1 := by kernel_rfl
theorem r0f : Tryz.prog.cellsOf 33 = 1 := by kernel_rfl
theorem w0o : Tryz.prog.cellsOf 34 = 1 := by kernel_rfl
theorem b1a : Tryz.prog.cellsOf 32 = 1 := by kernel_rfl
theorem u0p : Tryz.prog.cellsOf 80 = 1 := by kernel_rfl
theorem u0q : Tryz.prog.cellsOf 24 = 1 := by kernel_rfl
theorem w0q : Tryz.prog.cellsOf 25 = 1 := by kernel_rfl
theorem a1a {w : World} {es : List Value} (hl : es.length = 6) (h : d0r Tryz.prog w 91 es) : ∃ x : Ins, True ∧ es = b0r x.op x.d x.n x.m x.imm x.kind := by
 obtain ⟨_, hi⟩ := i0g Tryz.underlying91 h
 obtain ⟨c0, c1, c2, c3, c4, c5, rfl⟩ := e1z hl
 have f0 : d0r Tryz.prog w 3 (List.take (Tryz.prog.cellsOf 3) (List.drop 0 [c0, c1, c2, c3, c4, c5])) := hi 0 _ rfl
 have f1 : d0r Tryz.prog w 3 (List.take (Tryz.prog.cellsOf 3) (List.drop 1 [c0, c1, c2, c3, c4, c5])) := hi 1 _ rfl
 have f2 : d0r Tryz.prog w 3 (List.take (Tryz.prog.cellsOf 3) (List.drop 2 [c0, c1, c2, c3, c4, c5])) := hi 2 _ rfl
 have f3 : d0r Tryz.prog w 3 (List.take (Tryz.prog.cellsOf 3) (List.drop 3 [c0, c1, c2, c3, c4, c5])) := hi 3 _ rfl
 have f4 : d0r Tryz.prog w 3 (List.take (Tryz.prog.cellsOf 3) (List.drop 4 [c0, c1, c2, c3, c4, c5])) := hi 4 _ rfl
 have f5 : d0r Tryz.prog w 3 (List.take (Tryz.prog.cellsOf 3) (List.drop 5 [c0, c1, c2, c3, c4, c5])) := hi 5 _ rfl
 rw [m0i] at f0 f1 f2 f3 f4 f5
 simp only [List.drop_zero, List.drop_succ_cons, List.take_succ_cons, List.take_zero] at f0 f1 f2 f3 f4 f5
 obtain ⟨n0, g0, _⟩ := c0e Tryz.underlying3 f0
 injection g0 with g0
 obtain ⟨n1, g1, _⟩ := c0e Tryz.underlying3 f1
 injection g1 with g1
 obtain ⟨n2, g2, _⟩ := c0e Tryz.underlying3 f2
 injection g2 with g2
 obtain ⟨n3, g3, _⟩ := c0e Tryz.underlying3 f3
 injection g3 with g3
 obtain ⟨n4, g4, _⟩ := c0e Tryz.underlying3 f4
 injection g4 with g4
 obtain ⟨n5, g5, _⟩ := c0e Tryz.underlying3 f5
 injection g5 with g5
 subst g0 g1 g2 g3 g4 g5
 exact ⟨⟨n0, n1, n2, n3, n4, n5⟩, trivial, rfl⟩
theorem p0c {w : World} {cs : List Value} (h : d0r Tryz.prog w 80 cs) : ∃ (xs : List Ins) (v : Value), cs = [v] ∧ RdV w 6 v xs.length (insL xs) ∧ xs.length ≤ maxLen := by
 obtain ⟨xs, v, h1, h2, h3, _⟩ := h0p (fun x : Ins => b0r x.op x.d x.n x.m x.imm x.kind) 6 (fun _ => rfl) (by decide) (fun _ => True) Tryz.underlying80 w0p (fun es hl ho => a1a hl ho) h
 exact ⟨xs, v, h1, h2, h3⟩
theorem e1m {w : World} {es : List Value} (hl : es.length = 2) (h : d0r Tryz.prog w 79 es) : ∃ x : Nat × Nat, (x.1 < 18446744073709551616 ∧ x.2 < 18446744073709551616) ∧ es = [u64V x.1, u64V x.2] := by
 obtain ⟨_, hi⟩ := i0g Tryz.underlying79 h
 obtain ⟨c0, c1, rfl⟩ := f1b hl
 have f0 : d0r Tryz.prog w 26 (List.take (Tryz.prog.cellsOf 26) (List.drop 0 [c0, c1])) := hi 0 _ rfl
 have f1 : d0r Tryz.prog w 26 (List.take (Tryz.prog.cellsOf 26) (List.drop 1 [c0, c1])) := hi 1 _ rfl
 rw [m0h] at f0 f1
 simp only [List.drop_zero, List.drop_succ_cons, List.take_succ_cons, List.take_zero] at f0 f1
 obtain ⟨n0, g0, w0⟩ := c0e Tryz.underlying26 f0
 obtain ⟨n1, g1, w1⟩ := c0e Tryz.underlying26 f1
 injection g0 with g0
 injection g1 with g1
 subst g0 g1
 obtain ⟨q1, q2⟩ := r0n w0
 obtain ⟨q3, q4⟩ := r0n w1
 exact ⟨(n0.toNat, n1.toNat), ⟨by show n0.toNat < _; omega, by show n1.toNat < _; omega⟩, by unfold u64V; simp only; rw [Int.toNat_of_nonneg q1, Int.toNat_of_nonneg q3]⟩
theorem a1c {w : World} {cs : List Value} (h : d0r Tryz.prog w 24 cs) : ∃ (xs : List (Nat × Nat)) (v : Value), cs = [v] ∧ RdV w 2 v xs.length (cellL xs) ∧ xs.length ≤ maxLen ∧ ∀ p ∈ xs, p.1 < 18446744073709551616 ∧ p.2 < 18446744073709551616 :=
 h0p (fun x : Nat × Nat => [u64V x.1, u64V x.2]) 2 (fun _ => rfl) (by decide) (fun x => x.1 < 18446744073709551616 ∧ x.2 < 18446744073709551616) Tryz.underlying24 b1e (fun es hl ho => e1m hl ho) h
def o1u (w : World) (x : CoreV × GCore) : Prop := (RdV w 1 x.1.r x.2.regs.length (x.2.regs.map u64V) ∧ RdV w 6 x.1.c x.2.code.length (insL x.2.code) ∧ RdV w 6 x.1.h x.2.hand.length (insL x.2.hand)) ∧ x.2.table < 18446744073709551616 ∧ ∀ r ∈ x.2.regs, r < 18446744073709551616
theorem e1l {w : World} {es : List Value} (hl : es.length = 5) (h : d0r Tryz.prog w 82 es) : ∃ x : CoreV × GCore, o1u w x ∧ es = e0p x.1 x.2 := by
 obtain ⟨_, hi⟩ := i0g Tryz.underlying82 h
 obtain ⟨c0, c1, c2, c3, c4, rfl⟩ := l1r hl
 have f0 : d0r Tryz.prog w 32 (List.take (Tryz.prog.cellsOf 32) (List.drop 0 [c0, c1, c2, c3, c4])) := hi 0 _ rfl
 have f1 : d0r Tryz.prog w 3 (List.take (Tryz.prog.cellsOf 3) (List.drop 1 [c0, c1, c2, c3, c4])) := hi 1 _ rfl
 have f2 : d0r Tryz.prog w 26 (List.take (Tryz.prog.cellsOf 26) (List.drop 2 [c0, c1, c2, c3, c4])) := hi 2 _ rfl
 have f3 : d0r Tryz.prog w 80 (List.take (Tryz.prog.cellsOf 80) (List.drop 3 [c0, c1, c2, c3, c4])) := hi 3 _ rfl
 have f4 : d0r Tryz.prog w 80 (List.take (Tryz.prog.cellsOf 80) (List.drop 4 [c0, c1, c2, c3, c4])) := hi 4 _ rfl
 rw [u0p] at f3 f4
 rw [m0i] at f1
 rw [m0h] at f2
 rw [b1a] at f0
 simp only [List.drop_zero, List.drop_succ_cons, List.take_succ_cons, List.take_zero] at f0 f1 f2 f3 f4
 obtain ⟨xs, v0, g0, r0, _, hx⟩ := q0o Tryz.underlying32 Tryz.underlying26 m0h f0
 obtain ⟨sp, g1, _⟩ := c0e Tryz.underlying3 f1
 obtain ⟨tb, g2, w2⟩ := c0e Tryz.underlying26 f2
 obtain ⟨co, v3, g3, r3, _⟩ := p0c f3
 obtain ⟨ha, v4, g4, r4, _⟩ := p0c f4
 injection g0 with g0
 injection g1 with g1
 injection g2 with g2
 injection g3 with g3
 injection g4 with g4
 subst g0 g1 g2 g3 g4
 obtain ⟨q1, q2⟩ := r0n w2
 exact ⟨(⟨c0, c3, c4⟩, ⟨xs, sp, tb.toNat, co, ha⟩), ⟨⟨r0, r3, r4⟩, by show tb.toNat < _; omega, hx⟩, by unfold e0p u64V; simp only; rw [Int.toNat_of_nonneg q1]⟩
theorem n0m : ∀ xs : List (CoreV × GCore), h0x (xs.map Prod.fst) (xs.map Prod.snd) = xs.flatMap (fun x => e0p x.1 x.2)
 | [] => rfl
 | x :: xs => by
  show e0p x.1 x.2 ++ h0x (xs.map Prod.fst) (xs.map Prod.snd) = _
  rw [n0m xs, List.flatMap_cons]
theorem a1b {w : World} {cs : List Value} (h : d0r Tryz.prog w 25 cs) : ∃ (xs : List (CoreV × GCore)) (v : Value), cs = [v] ∧ RdV w 5 v xs.length (xs.flatMap (fun x => e0p x.1 x.2)) ∧ xs.length ≤ maxLen ∧ ∀ x ∈ xs, o1u w x :=
 h0p (fun x : CoreV × GCore => e0p x.1 x.2) 5 (fun _ => rfl) (by decide) (o1u w) Tryz.underlying25 b1c (fun es hl ho => e1l hl ho) h
theorem open_ints {w : World} {cs : List Value} (h : d0r Tryz.prog w 33 cs) : ∃ (xs : List Int) (v : Value), cs = [v] ∧ RdV w 1 v xs.length (xs.map i64V) ∧ xs.length ≤ maxLen :=
 z0w Tryz.underlying33 Tryz.underlying3 m0i h
theorem x0x : ∀ xs : List (Value × List Int), xs.flatMap (fun x => [x.1]) = xs.map Prod.fst
 | [] => rfl
 | x :: xs => by rw [List.flatMap_cons, x0x xs]; rfl
theorem z0z {w : World} {cs : List Value} (h : d0r Tryz.prog w 34 cs) : ∃ (xs : List (Value × List Int)) (v : Value), cs = [v] ∧ RdV w 1 v xs.length (xs.map Prod.fst) ∧ xs.length ≤ maxLen ∧ ∀ x ∈ xs, RdV w 1 x.1 x.2.length (x.2.map i64V) ∧ x.2.length ≤ maxLen := by
 obtain ⟨xs, v, h1, h2, h3, h4⟩ := h0p (fun x : Value × List Int => [x.1]) 1 (fun _ => rfl) (by decide) (fun x => RdV w 1 x.1 x.2.length (x.2.map i64V) ∧ x.2.length ≤ maxLen) Tryz.underlying34 r0f (fun es hl ho => by
  obtain ⟨ys, v, g, r, hm⟩ := open_ints ho
  exact ⟨(v, ys), ⟨r, hm⟩, g⟩) h
 rw [x0x] at h2
 exact ⟨xs, v, h1, h2, h3, h4⟩
structure GOp (w : World) (x : GSrc) (v : SrcV) : Prop where
 cells : RdV w 2 v.vC x.cells.length (cellL x.cells)
 cores : RdV w 5 v.vCo x.cores.length (h0x v.cvs x.cores)
 lenc : v.cvs.length = x.cores.length
 core : ∀ (i : Nat) (h : i < x.cores.length) (h' : i < v.cvs.length), RdV w 1 v.cvs[i].r x.cores[i].regs.length (x.cores[i].regs.map u64V) ∧ RdV w 6 v.cvs[i].c x.cores[i].code.length (insL x.cores[i].code) ∧ RdV w 6 v.cvs[i].h x.cores[i].hand.length (insL x.cores[i].hand)
 cond : CT.At w (fun _ => True) x.cond (condC v)
 tables : RdV w 1 v.vT x.tables.length (x.tables.map u64V)
 pT : RdV w 1 v.vPT x.pT.length (x.pT.map i64V)
 pC : RdV w 1 v.vPC x.pC.length (x.pC.map i64V)
 pCo : RdV w 1 v.vPCo x.pCo.length (x.pCo.map i64V)
 pI : RdV w 1 v.vPI x.pI.length v.ivs
 leni : v.ivs.length = x.pI.length
 ins : ∀ (i : Nat) (h : i < x.pI.length) (h' : i < v.ivs.length), RdV w 1 v.ivs[i] x.pI[i].length (x.pI[i].map i64V)
 mT : x.pT.length ≤ maxLen
 mC : x.pC.length ≤ maxLen
 mCo : x.pCo.length ≤ maxLen
 mI : x.pI.length ≤ maxLen
 mIs : ∀ q ∈ x.pI, q.length ≤ maxLen
 tlt : ∀ t ∈ x.tables, t < 18446744073709551616
 clt : ∀ p ∈ x.cells, p.1 < 18446744073709551616 ∧ p.2 < 18446744073709551616
 klt : ∀ c ∈ x.cores, c.table < 18446744073709551616 ∧ ∀ r ∈ c.regs, r < 18446744073709551616
structure FewT (x : GSrc) : Prop where
 cells : x.cells.length ≤ 300
 cores : x.cores.length ≤ 6
 code : ∀ c ∈ x.cores, c.code.length ≤ 40 ∧ c.hand.length ≤ 40 ∧ c.regs.length ≤ 40
 cond : a0k x.cond ≤ 1000
theorem GOp.grd {w : World} {x : GSrc} {v : SrcV} (h : GOp w x v) (hf : FewT x) (ht : x.tables.length ≤ 50) : GRd w x v :=
 ⟨h.cells, h.cores, h.lenc, h.core, ⟨_, h.cond⟩, h.tables, h.pT, h.pC, h.pCo, h.pI, h.leni, h.ins,
  ⟨by have := hf.cells; omega, by have := hf.cores; omega, by omega, h.mT, h.mC, h.mCo, h.mI, h.mIs, fun c hc => by have := hf.code c hc; omega, h.tlt, h.clt, h.klt, by have := hf.cond; omega⟩⟩
theorem GOp.below {w w' : World} {x : GSrc} {v : SrcV} (h : GOp w x v) (hb : Below w.heap.size w w') : GOp w' x v :=
 ⟨h.cells.below hb, h.cores.below hb, h.lenc, fun i h1 h2 => ⟨(h.core i h1 h2).1.below hb, (h.core i h1 h2).2.1.below hb, (h.core i h1 h2).2.2.below hb⟩, h.cond.below hb, h.tables.below hb, h.pT.below hb, h.pC.below hb, h.pCo.below hb, h.pI.below hb, h.leni, fun i h1 h2 => (h.ins i h1 h2).below hb, h.mT, h.mC, h.mCo, h.mI, h.mIs, h.tlt, h.clt, h.klt⟩
theorem z0y {w : World} {f : Nat} {cs ts ps : List Value} (h : f0q Tryz.prog w f 31 cs) (hl : cs.length = 10) (ht : d0r Tryz.prog w 32 ts) (hp : d0r Tryz.prog w 36 ps) (hpl : ps.length = 5) :
  ∃ (x : GSrc) (v : SrcV), cs = [.string x.name, v.vC, v.vCo, .bool x.fa, v.k0, v.k1, v.k2, v.k3, v.k4, v.k5] ∧ ts = [v.vT] ∧ ps = [v.vPT, v.vPC, v.vPCo, v.vPI, .int .i64 x.pCond] ∧ GOp w x v := by
 obtain ⟨_, m, hm, hi⟩ := j0l Tryz.underlying31 h
 obtain ⟨c0, c1, c2, c3, k0, k1, k2, k3, k4, k5, rfl⟩ := n1j hl
 have f0 : f0q Tryz.prog w m 9 (List.take (Tryz.prog.cellsOf 9) (List.drop 0 [c0, c1, c2, c3, k0, k1, k2, k3, k4, k5])) := hi 0 _ rfl
 have f1 : f0q Tryz.prog w m 24 (List.take (Tryz.prog.cellsOf 24) (List.drop 1 [c0, c1, c2, c3, k0, k1, k2, k3, k4, k5])) := hi 1 _ rfl
 have f2 : f0q Tryz.prog w m 25 (List.take (Tryz.prog.cellsOf 25) (List.drop 2 [c0, c1, c2, c3, k0, k1, k2, k3, k4, k5])) := hi 2 _ rfl
 have f3 : f0q Tryz.prog w m 4 (List.take (Tryz.prog.cellsOf 4) (List.drop 3 [c0, c1, c2, c3, k0, k1, k2, k3, k4, k5])) := hi 3 _ rfl
 have f4 : f0q Tryz.prog w m 29 (List.take (Tryz.prog.cellsOf 29) (List.drop 4 [c0, c1, c2, c3, k0, k1, k2, k3, k4, k5])) := hi 4 _ rfl
 rw [b1f] at f3
 rw [u0q] at f1
 rw [b1d] at f4
 rw [w0q] at f2
 rw [g1a] at f0
 simp only [List.drop_zero, List.drop_succ_cons, List.take_succ_cons, List.take_zero] at f0 f1 f2 f3 f4
 obtain ⟨nm, g0, _⟩ := t0q Tryz.underlying9 f0.opens
 obtain ⟨xc, v1, g1, r1, _, l1⟩ := a1c f1.opens
 obtain ⟨xo, v2, g2, r2, _, l2⟩ := a1b f2.opens
 obtain ⟨fa, g3⟩ := z0x Tryz.underlying4 f3.opens
 obtain ⟨cd, hcd⟩ := f1y m m (Nat.le_refl _) _ f4
 injection g0 with g0
 injection g1 with g1
 injection g2 with g2
 injection g3 with g3
 subst g0 g1 g2 g3
 clear f0 f1 f2 f3 f4 hi
 obtain ⟨xt, v5, rfl, r5, _, l5⟩ := q0o Tryz.underlying32 Tryz.underlying26 m0h ht
 obtain ⟨_, hi⟩ := i0g Tryz.underlying36 hp
 obtain ⟨q0, q1, q2, q3, q4, rfl⟩ := l1r hpl
 have f0 : d0r Tryz.prog w 33 (List.take (Tryz.prog.cellsOf 33) (List.drop 0 [q0, q1, q2, q3, q4])) := hi 0 _ rfl
 have f1 : d0r Tryz.prog w 33 (List.take (Tryz.prog.cellsOf 33) (List.drop 1 [q0, q1, q2, q3, q4])) := hi 1 _ rfl
 have f2 : d0r Tryz.prog w 33 (List.take (Tryz.prog.cellsOf 33) (List.drop 2 [q0, q1, q2, q3, q4])) := hi 2 _ rfl
 have f3 : d0r Tryz.prog w 34 (List.take (Tryz.prog.cellsOf 34) (List.drop 3 [q0, q1, q2, q3, q4])) := hi 3 _ rfl
 have f4 : d0r Tryz.prog w 3 (List.take (Tryz.prog.cellsOf 3) (List.drop 4 [q0, q1, q2, q3, q4])) := hi 4 _ rfl
 rw [m0i] at f4
 rw [r0f] at f0 f1 f2
 rw [w0o] at f3
 simp only [List.drop_zero, List.drop_succ_cons, List.take_succ_cons, List.take_zero] at f0 f1 f2 f3 f4
 obtain ⟨x0, u0, g0, s0, m0⟩ := open_ints f0
 obtain ⟨x1, u1, g1, s1, m1⟩ := open_ints f1
 obtain ⟨x2, u2, g2, s2, m2⟩ := open_ints f2
 obtain ⟨x3, u3, g3, s3, m3, l3⟩ := z0z f3
 obtain ⟨pc, g4, _⟩ := c0e Tryz.underlying3 f4
 injection g0 with g0
 injection g1 with g1
 injection g2 with g2
 injection g3 with g3
 injection g4 with g4
 subst g0 g1 g2 g3 g4
 refine ⟨⟨nm, xc, xo.map Prod.snd, fa, cd, xt, x0, x1, x2, x3.map Prod.snd, pc⟩, ⟨c1, c2, k0, k1, k2, k3, k4, k5, v5, q0, q1, q2, q3, xo.map Prod.fst, x3.map Prod.fst⟩, rfl, rfl, rfl, ?_⟩
 exact ⟨r1, by rw [List.length_map, n0m]; exact r2, by simp, fun i h h' => by
  have hi : i < xo.length := by simpa using h
  simp only [List.getElem_map]
  exact (l2 _ (List.getElem_mem hi)).1, hcd, r5, s0, s1, s2, by rw [List.length_map]; exact s3, by simp, fun i h h' => by
  have hi : i < x3.length := by simpa using h
  simp only [List.getElem_map]
  exact (l3 _ (List.getElem_mem hi)).1, m0, m1, m2, by rw [List.length_map]; exact m3, fun q hq => by
  obtain ⟨y, hy, rfl⟩ := List.mem_map.1 hq
  exact (l3 y hy).2, l5, l1, fun c hc => by
  obtain ⟨y, hy, rfl⟩ := List.mem_map.1 hc
  exact (l2 y hy).2⟩
end
section
open Go.RowKit
theorem GOp.coreAt {w : World} {x : GSrc} {v : SrcV} (h : GOp w x v) {p : Option Addr} {c : Nat} (hv : v.vCo = .slice p x.cores.length c) {k : Nat} (hk : k < x.cores.length) : ∃ (g off : Nat) (pr pc ph : Option Addr) (cr cc ch : Nat), p = some ⟨g, off, none⟩ ∧ w.cell? ⟨g, off + k * 5, none⟩ = some (.slice pr x.cores[k].regs.length cr) ∧ w.cell? ⟨g, off + k * 5 + 3, none⟩ = some (.slice pc x.cores[k].code.length cc) ∧ w.cell? ⟨g, off + k * 5 + 4, none⟩ = some (.slice ph x.cores[k].hand.length ch) := by
 obtain ⟨p', c', hv', hr, _⟩ := h.cores
 rw [hv] at hv'
 injection hv' with e1 _ _
 subst e1
 obtain ⟨g, off, hp, hc⟩ := hr.2 (by omega)
 have hk' : k < v.cvs.length := by rw [h.lenc]; exact hk
 obtain ⟨⟨pr, cr, er, _⟩, ⟨pc, cc, ec, _⟩, ⟨ph, ch, eh, _⟩⟩ := h.core k hk hk'
 refine ⟨g, off, pr, pc, ph, cr, cc, ch, hp, ?_, ?_, ?_⟩
 ·have q := (hc (k * 5 + 0) (by omega)).trans (i0z _ _ k hk hk' 0 (by omega))
  rw [← er]; simpa [e0p] using q
 ·have q := (hc (k * 5 + 3) (by omega)).trans (i0z _ _ k hk hk' 3 (by omega))
  rw [← ec, Nat.add_assoc]; simpa [e0p] using q
 ·have q := (hc (k * 5 + 4) (by omega)).trans (i0z _ _ k hk hk' 4 (by omega))
  rw [← eh, Nat.add_assoc]; simpa [e0p] using q
theorem u0a : ∀ (ts : List CT), (∀ t ∈ ts, a0k t ≤ 1) → b0i ts ≤ ts.length
 | [], _ => by simp [b0i]
 | t :: ts, h => by
  have h1 := u0a ts (fun u hu => h u (by simp [hu]))
  have h2 := h t (by simp)
  rw [b0i, List.length_cons]; omega
theorem g1d {w : World} {S : Nat → Prop} {p : Option Addr} {ts : List CT} (h : CT.Row w S p 0 ts) {j : Nat} (hj : j < ts.length) : ∃ (g off : Nat) (q : Option Addr) (l cp : Nat), p = some ⟨g, off, none⟩ ∧ w.cell? ⟨g, off + j * 6 + 5, none⟩ = some (.slice q l cp) ∧ (l ≤ 0 → a0k ts[j] ≤ 1) := by
 obtain ⟨g, off, es, h1, h2, h3, h4, h5⟩ := h.at_ hj
 generalize ts[j] = t at *
 obtain ⟨k, c, r, a, v, args⟩ := t
 obtain ⟨q, cap, rfl, _⟩ := h5.own
 refine ⟨g, off, q, args.length, cap, h1, ?_, fun hl => ?_⟩
 ·have := h4 5 (by omega)
  rw [Nat.zero_add] at this
  exact this
 ·obtain rfl : args = [] := List.eq_nil_of_length_eq_zero (by omega)
  simp [a0k, b0i]
theorem n1w (w : World) {x : GSrc} {v : SrcV} (h : GOp w x v) :
  Calls Tryz.prog 14 #[.agg #[.string x.name, v.vC, v.vCo, .bool x.fa, v.k0, v.k1, v.k2, v.k3, v.k4, v.k5]] w fun e w' => ∃ b, e = .returned (.bool b) ∧ (b = true → FewT x) ∧ Below w.heap.size w w' := by
 obtain ⟨p0, c0, e0, -, -⟩ := h.cells
 obtain ⟨p2, c2, e2, -, hcc⟩ := h.cores
 have HG := h_ h
 have HC := h_ h.cond
 clear h
 obtain ⟨nm, cells, cores, fa, cond, tables, pT, pC, pCo, pI, pCond⟩ := x
 obtain ⟨vC, vCo, k0, k1, k2, k3, k4, k5, vT, vPT, vPC, vPCo, vPI, cvs, ivs⟩ := v
 dsimp only [condC] at e0 e2 HG HC hcc ⊢
 subst e0 e2
 obtain ⟨ck, cc, cr, ca, cv, args⟩ := cond
 obtain ⟨pa, cap, ea, hal, ham, -, -, hrow⟩ := HC.out.own
 injection ea with e0 ea
 injection ea with e1 ea
 injection ea with e2 ea
 injection ea with e3 ea
 injection ea with e4 ea
 injection ea with e5 ea
 subst e0 e1 e2 e3 e4 e5
 have HB1 := h_ (show Below w.heap.size w (w.alloc (.cells #[.string nm, .slice p0 cells.length c0, .slice p2 cores.length c2, .bool fa, .int .i64 ck, .int .i64 cc, .int .i64 cr, .int .u64 (ca : Nat), .int .u64 (cv : Nat), .slice pa args.length cap] 31)) from bl_ (Below.refl _ _) _)
 have HM := h_ (show Blk (w.alloc (.cells #[.string nm, .slice p0 cells.length c0, .slice p2 cores.length c2, .bool fa, .int .i64 ck, .int .i64 cc, .int .i64 cr, .int .u64 (ca : Nat), .int .u64 (cv : Nat), .slice pa args.length cap] 31)) 31 w.heap.size [.string nm, .slice p0 cells.length c0, .slice p2 cores.length c2, .bool fa, .int .i64 ck, .int .i64 cc, .int .i64 cr, .int .u64 (ca : Nat), .int .u64 (cv : Nat), .slice pa args.length cap] from Blk.new w _ _)
 have HRW := h_ (hrow.below HB1.out)
 have HGG := h_ (HG.out.below HB1.out)
 clear hrow ham hcc
 go_enter Tryz.func14, Tryz.ntmps14
 have m1 := HM.out.cell 1
 have m2 := HM.out.cell 2
 have m9 := HM.out.cell 9
 have ml := HM.out.lt
 simp only [gz_, gs_] at m1 m2 m9
 by_cases h1 : 300 < cells.length
 ·have h1' : (300 : Int) < cells.length := by omega
  clear h1
  go_wp2_with fail
  go_ret
  first | exact ⟨_, rfl, fun q => by simp at q, HB1.out⟩ | exact .inl ⟨rfl, HB1.out⟩
 by_cases h2 : 6 < cores.length
 ·have h1' : (cells.length : Int) ≤ 300 := by omega
  have h2' : (6 : Int) < cores.length := by omega
  clear h1 h2
  go_wp2_with fail
  go_ret
  first | exact ⟨_, rfl, fun q => by simp at q, HB1.out⟩ | exact .inl ⟨rfl, HB1.out⟩
 by_cases h3 : 2 < args.length
 ·have h1' : (cells.length : Int) ≤ 300 := by omega
  have h2' : (cores.length : Int) ≤ 6 := by omega
  have h3' : (2 : Int) < args.length := by omega
  clear h1 h2 h3
  go_wp2_with fail
  go_ret
  first | exact ⟨_, rfl, fun q => by simp at q, HB1.out⟩ | exact .inl ⟨rfl, HB1.out⟩
 have h1' : (cells.length : Int) ≤ 300 := by omega
 have h2' : (cores.length : Int) ≤ 6 := by omega
 have h3' : (args.length : Int) ≤ 2 := by omega
 have HSZ := h_ (show cells.length ≤ 300 ∧ cores.length ≤ 6 ∧ args.length ≤ 2 by omega)
 clear h1 h2 h3
 go_wp2_with fail
 generalize w.alloc (.cells #[.string nm, .slice p0 cells.length c0, .slice p2 cores.length c2, .bool fa, .int .i64 ck, .int .i64 cc, .int .i64 cr, .int .u64 (ca : Nat), .int .u64 (cv : Nat), .slice pa args.length cap] 31) = w1 at *
 clear m1 m2 m9 ml
 go_loopw [3] (fun i wr => ∃ k : Nat, k ≤ cores.length ∧ i = .int .i64 k ∧ Hid (∀ c ∈ cores.take k, c.code.length ≤ 40 ∧ c.hand.length ≤ 40 ∧ c.regs.length ≤ 40) ∧ Below w1.heap.size w1 wr) (fun i _ => cores.length - (intOf i).toNat)
 case atStart => exact ⟨0, Nat.zero_le _, rfl, h_ (fun c hc => by simp at hc), Below.refl _ _⟩
 case round =>
  obtain ⟨k, hk, rfl, HE, hbr⟩ := hrel
  have HMK := h_ (HM.out.below hbr)
  have HBR := h_ (bt_ HB1.out hbr)
  have m2 := HMK.out.cell 2
  have m9 := HMK.out.cell 9
  have ml := HMK.out.lt
  simp only [gz_, gs_] at m2 m9
  by_cases hkl : k < cores.length
  ·have hkn : (k : Int) < cores.length := by omega
   obtain ⟨g, off, pr, pc, ph, r1, r2, r3, rfl, a0, a3, a4⟩ := (HGG.out.below hbr).coreAt rfl hkl
   dsimp only at a0 a3 a4
   have HT := h_ (s0w hkl)
   have HBK := h_ hbr
   clear hbr
   generalize cores[k] = y at *
   by_cases q1 : 40 < y.code.length
   ·have q1' : (40 : Int) < y.code.length := by omega
    clear q1
    go_wp2_with fail
    go_ret
    first | exact ⟨_, rfl, fun q => by simp at q, HBR.out⟩ | exact .inl ⟨rfl, HBR.out⟩
   have q1' : (y.code.length : Int) ≤ 40 := by omega
   by_cases q2 : 40 < y.hand.length
   ·have q2' : (40 : Int) < y.hand.length := by omega
    clear q1 q2
    go_wp2_with fail
    go_ret
    first | exact ⟨_, rfl, fun q => by simp at q, HBR.out⟩ | exact .inl ⟨rfl, HBR.out⟩
   have q2' : (y.hand.length : Int) ≤ 40 := by omega
   by_cases q3 : 40 < y.regs.length
   ·have q3' : (40 : Int) < y.regs.length := by omega
    clear q1 q2 q3
    go_wp2_with fail
    go_ret
    first | exact ⟨_, rfl, fun q => by simp at q, HBR.out⟩ | exact .inl ⟨rfl, HBR.out⟩
   have q3' : (y.regs.length : Int) ≤ 40 := by omega
   have HN := h_ (show ∀ c ∈ cores.take (k + 1), c.code.length ≤ 40 ∧ c.hand.length ≤ 40 ∧ c.regs.length ≤ 40 from fun c hc => by
    rw [HT.out, List.mem_append, List.mem_singleton] at hc
    rcases hc with hc | rfl
    ·exact HE.out c hc
    ·omega)
   clear q1 q2 q3
   go_wp2_with fail
   go_roundw
   case rel => exact ⟨k + 1, by omega, by go_num, HN, HBK.out⟩
   case measure => simp [intOf] <;> omega
  ·obtain rfl : k = cores.length := by omega
   have HCO := h_ (show ∀ c ∈ cores, c.code.length ≤ 40 ∧ c.hand.length ≤ 40 ∧ c.regs.length ≤ 40 from fun c hc => HE.out c (by rw [List.take_length]; exact hc))
   have HRW2 := h_ (HRW.out.below hbr)
   clear hbr HE hkl
   go_wp2_with fail
   clear m2 m9 ml
   generalize wr = w2 at *
   go_loopw [4] (fun i wr => ∃ j : Nat, j ≤ args.length ∧ i = .int .i64 j ∧ Hid (∀ t ∈ args.take j, a0k t ≤ 1) ∧ Below w2.heap.size w2 wr) (fun i _ => args.length - (intOf i).toNat)
   case atStart => exact ⟨0, Nat.zero_le _, rfl, h_ (fun c hc => by simp at hc), Below.refl _ _⟩
   case round =>
    obtain ⟨j, hj, rfl, HE, hbr⟩ := hrel
    have HMJ := h_ (HMK.out.below hbr)
    have HBJ := h_ (bt_ HBR.out hbr)
    have m9 := HMJ.out.cell 9
    have ml := HMJ.out.lt
    simp only [gz_, gs_] at m9
    by_cases hjl : j < args.length
    ·have hjn : (j : Int) < args.length := by omega
     obtain ⟨g, off, q, l, cp, rfl, a5, hcnt⟩ := g1d (HRW2.out.below hbr) hjl
     have HT := h_ (s0w hjl)
     have HK := h_ hcnt
     have HBK := h_ hbr
     clear hcnt hbr
     generalize args[j] = y at *
     by_cases q1 : 0 < l
     ·have q1' : (0 : Int) < l := by omega
      clear q1
      go_wp2_with fail
      go_ret
      first | exact ⟨_, rfl, fun q => by simp at q, HBJ.out⟩ | exact .inl ⟨rfl, HBJ.out⟩
     have q1' : (l : Int) ≤ 0 := by omega
     have HN := h_ (show ∀ t ∈ args.take (j + 1), a0k t ≤ 1 from fun c hc => by
      rw [HT.out, List.mem_append, List.mem_singleton] at hc
      rcases hc with hc | rfl
      ·exact HE.out c hc
      ·exact HK.out (by omega))
     clear q1
     go_wp2_with fail
     go_roundw
     case rel => exact ⟨j + 1, by omega, by go_num, HN, HBK.out⟩
     case measure => simp [intOf] <;> omega
    ·obtain rfl : j = args.length := by omega
     have HF := h_ (show FewT ⟨nm, cells, cores, fa, .mk ck cc cr ca cv args, tables, pT, pC, pCo, pI, pCond⟩ from ⟨HSZ.out.1, HSZ.out.2.1, HCO.out, by
      have q := u0a args (fun t ht => HE.out t (by rw [List.take_length]; exact ht))
      have := HSZ.out.2.2
      show 1 + b0i args ≤ 1000
      omega⟩)
     go_wp2_with fail
     go_ret
     first | exact ⟨_, rfl, fun _ => HF.out, HBJ.out⟩ | exact .inr ⟨rfl, HF.out, HBJ.out⟩
end
end Go.Proofs.YtmnojnopejhebaaGreat
