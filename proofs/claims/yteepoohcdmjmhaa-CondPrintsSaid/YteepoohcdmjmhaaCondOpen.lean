/- A condition that came in. -/
import Derived.Test.YteepoohcdmjmhaaCondTree
import Derived.Test.YteepoohcdmjmhaaCondRdr
namespace Go.Proofs.Yteepoohcdmjmhaa
open Go.RowKit Go.WideShapes Go.ChangeShapes
set_option linter.unusedVariables false
set_option linter.unusedSimpArgs false

theorem wf_i64 {n : Int} (h : (Lit.int .i64 n).wf = true) : I64 n := by
  have h' := h
  unfold Lit.wf at h'
  simp only [Bool.and_eq_true, decide_eq_true_eq] at h'
  exact h'
theorem wf_u64 {n : Int} (h : (Lit.int .u64 n).wf = true) : 0 ≤ n ∧ n < 18446744073709551616 := by
  have h' : (0 : Int) ≤ n ∧ n ≤ 18446744073709551615 := by
    unfold Lit.wf at h
    simp only [Bool.and_eq_true, decide_eq_true_eq] at h
    exact h
  omega
theorem list6c {α : Type} {l : List α} (h : l.length = 6) : ∃ a b c d e f, l = [a, b, c, d, e, f] := by
  match l, h with
  | [a, b, c, d, e, f], _ => exact ⟨a, b, c, d, e, f, rfl⟩
theorem rows_of {w : World} {S : Nat → Prop} {p : Option Addr} (g off : Nat) (hp : p = some ⟨g, off, none⟩) (hS : S g) : ∀ (n i : Nat), (∀ j, j < n → ∃ es t, es.length = 6 ∧ (∀ x, x < 6 → w.cell? ⟨g, off + (i + j) * 6 + x, none⟩ = es[x]?) ∧ CT.At w S t es) → ∃ ts : List CT, ts.length = n ∧ CT.Row w S p i ts
  | 0, i, _ => ⟨[], rfl, by unfold CT.Row; trivial⟩
  | n + 1, i, h => by
    obtain ⟨es, t, h1, h2, h3⟩ := h 0 (by omega)
    obtain ⟨ts, h4, h5⟩ := rows_of g off hp hS n (i + 1) (fun j hj => by
      obtain ⟨es, t, h1, h2, h3⟩ := h (j + 1) (by omega)
      exact ⟨es, t, h1, fun x hx => by rw [show i + 1 + j = i + (j + 1) by omega]; exact h2 x hx, h3⟩)
    refine ⟨t :: ts, by simp [h4], ?_⟩
    unfold CT.Row
    exact ⟨⟨g, off, es, hp, hS, h1, by simpa using h2, h3⟩, h5⟩
set_option maxHeartbeats 1600000 in
theorem cond_of {w : World} : ∀ (n fuel : Nat), fuel ≤ n → ∀ cs : List Value, OpensN Try.prog w fuel 25 cs → ∃ t, CT.At w (fun _ => True) t cs
  | 0, fuel, hf, cs, h => by
    obtain ⟨_, m, hm, _⟩ := opensN_struct Try.underlying25 h
    omega
  | n + 1, fuel, hf, cs, h => by
    obtain ⟨hl, m, hm, hi⟩ := opensN_struct Try.underlying25 h
    have e6 : Try.prog.cellsOf 25 = 6 := by kernel_rfl
    have e1 : Try.prog.cellsOf 3 = 1 := by kernel_rfl
    have e2 : Try.prog.cellsOf 22 = 1 := by kernel_rfl
    have e3 : Try.prog.cellsOf 23 = 1 := by kernel_rfl
    rw [e6] at hl
    obtain ⟨c0, c1, c2, c3, c4, c5, rfl⟩ := list6c hl
    have f0 : OpensN Try.prog w m 3 (List.take (Try.prog.cellsOf 3) (List.drop 0 [c0, c1, c2, c3, c4, c5])) := hi 0 _ rfl
    have f1 : OpensN Try.prog w m 3 (List.take (Try.prog.cellsOf 3) (List.drop 1 [c0, c1, c2, c3, c4, c5])) := hi 1 _ rfl
    have f2 : OpensN Try.prog w m 3 (List.take (Try.prog.cellsOf 3) (List.drop 2 [c0, c1, c2, c3, c4, c5])) := hi 2 _ rfl
    have f3 : OpensN Try.prog w m 22 (List.take (Try.prog.cellsOf 22) (List.drop 3 [c0, c1, c2, c3, c4, c5])) := hi 3 _ rfl
    have f4 : OpensN Try.prog w m 22 (List.take (Try.prog.cellsOf 22) (List.drop 4 [c0, c1, c2, c3, c4, c5])) := hi 4 _ rfl
    have f5 : OpensN Try.prog w m 23 (List.take (Try.prog.cellsOf 23) (List.drop 5 [c0, c1, c2, c3, c4, c5])) := hi 5 _ rfl
    rw [e1] at f0 f1 f2
    rw [e2] at f3 f4
    rw [e3] at f5
    simp only [List.drop_zero, List.drop_succ_cons, List.take_succ_cons, List.take_zero] at f0 f1 f2 f3 f4 f5
    obtain ⟨k, g0, w0⟩ := opens_int Try.underlying3 f0.opens
    obtain ⟨c, g1, w1⟩ := opens_int Try.underlying3 f1.opens
    obtain ⟨r, g2, w2⟩ := opens_int Try.underlying3 f2.opens
    obtain ⟨a, g3, w3⟩ := opens_int Try.underlying22 f3.opens
    obtain ⟨v, g4, w4⟩ := opens_int Try.underlying22 f4.opens
    injection g0 with g0
    injection g1 with g1
    injection g2 with g2
    injection g3 with g3
    injection g4 with g4
    subst g0 g1 g2 g3 g4
    have w0 := wf_i64 w0
    have w1 := wf_i64 w1
    have w2 := wf_i64 w2
    have w3 := wf_u64 w3
    have w4 := wf_u64 w4
    obtain ⟨a, rfl⟩ := Int.eq_ofNat_of_zero_le w3.1
    obtain ⟨v, rfl⟩ := Int.eq_ofNat_of_zero_le w4.1
    have hav : a < 18446744073709551616 ∧ v < 18446744073709551616 := by omega
    rcases opensN_slice Try.underlying23 f5 with e | ⟨ad, len, cap, m2, hm2, e, hlc, hcm, he⟩
    · injection e with e
      subst e
      refine ⟨.mk k c r a v [], ?_⟩
      unfold CT.At
      exact ⟨none, 0, rfl, Nat.le_refl _, by decide, hav.1, ⟨hav.2, w0, w1, w2⟩, by unfold CT.Row; trivial⟩
    · injection e with e
      subst e
      rw [e6] at he
      have hts : ∃ ts : List CT, ts.length = len ∧ CT.Row w (fun _ => True) (some ad) 0 ts := by
        rcases Nat.eq_zero_or_pos len with h0 | h0
        · exact ⟨[], by simp [h0], by unfold CT.Row; trivial⟩
        · have hsp : ad.spot = none := by
            obtain ⟨es, hl, hcell, hes⟩ := he 0 h0
            have c0 := hcell 0 (by omega)
            obtain ⟨y0, y1, y2, y3, y4, y5, rfl⟩ := list6c hl
            simp only [Addr.add, Nat.zero_mul, if_true, List.getElem?_cons_zero] at c0
            unfold World.cell? at c0
            cases hs : ad.spot with
            | none => rfl
            | some q => rw [hs] at c0; split at c0 <;> simp at c0
          obtain ⟨b, off, sp⟩ := ad
          simp only at hsp
          subst hsp
          refine rows_of b off rfl trivial len 0 (fun j hj => ?_)
          obtain ⟨es, hl, hcell, hes⟩ := he j hj
          obtain ⟨t, ht⟩ := cond_of n m2 (by omega) es hes
          refine ⟨es, t, hl, fun x hx => ?_, ht⟩
          have := hcell x hx
          rw [addr_add, addr_add] at this
          rw [Nat.zero_add]; exact this
      obtain ⟨ts, hl, hr⟩ := hts
      refine ⟨.mk k c r a v ts, ?_⟩
      unfold CT.At
      exact ⟨some ad, cap, by rw [hl], by omega, hcm, hav.1, ⟨hav.2, w0, w1, w2⟩, hr⟩
theorem open_cond {H : Type} {enc : TypeId × Value → H} {w : World} {base : Nat} {spare : Nat → Bool} {held : Bool} {r : Reach} {b0 : Nat} {v : Value} {d : DataW H} {ps : List MemPlace}
    (hv : Value.okWide Try.prog w r b0 25 v) (h : DataW.Trod enc Try.prog w base spare held 25 v d ps) : ∃ (t : CT) (cs : List Value), v = .agg cs.toArray ∧ CT.At w (fun _ => True) t cs := by
  obtain ⟨cs, rfl, hsz⟩ := okWide_struct Try.underlying25 hv
  obtain ⟨fuel, hf⟩ := opensN_of h
  obtain ⟨t, ht⟩ := cond_of fuel fuel (Nat.le_refl _) _ hf
  exact ⟨t, cs.toList, by simp, ht⟩
end Go.Proofs.Yteepoohcdmjmhaa
