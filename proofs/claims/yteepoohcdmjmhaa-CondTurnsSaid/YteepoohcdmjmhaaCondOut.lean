/- Outcomes as they lie in memory. -/
import Derived.Test.YteepoohcdmjmhaaCondOpen
namespace Go.Proofs.Yteepoohcdmjmhaa
open Go.RowKit Go.WideShapes Go.ChangeShapes
set_option linter.unusedVariables false
set_option linter.unusedSimpArgs false

structure OU where
  regs : List (List Int)
  faults : List Nat
  cells : List (Int × Int)
def OutAt (w : World) (o : OU) (cs : List Value) : Prop :=
  ∃ (p1 : Option Addr) (c1 : Nat) (p2 : Option Addr) (c2 : Nat) (p3 : Option Addr) (c3 : Nat), cs = [.slice p1 o.regs.length c1, .slice p2 o.faults.length c2, .slice p3 o.cells.length c3] ∧
    (o.regs.length ≤ 9223372036854775807 ∧ o.faults.length ≤ 9223372036854775807 ∧ o.cells.length ≤ 9223372036854775807) ∧
    (∀ i (h : i < o.regs.length), ∃ (g off : Nat) (q : Option Addr) (cp : Nat), p1 = some ⟨g, off, none⟩ ∧ w.cell? ⟨g, off + i, none⟩ = some (.slice q (o.regs[i]).length cp) ∧ (o.regs[i]).length ≤ 9223372036854775807 ∧
      ∀ j (hj : j < (o.regs[i]).length), ∃ g2 off2 : Nat, q = some ⟨g2, off2, none⟩ ∧ w.cell? ⟨g2, off2 + j, none⟩ = some (.int .u64 ((o.regs[i])[j]))) ∧
    (∀ i (h : i < o.faults.length), ∃ (g off : Nat) (q : Option Addr) (cp : Nat), p2 = some ⟨g, off, none⟩ ∧ w.cell? ⟨g, off + i, none⟩ = some (.slice q o.faults[i] cp) ∧ o.faults[i] ≤ 9223372036854775807) ∧
    (∀ i (h : i < o.cells.length), ∃ g off : Nat, p3 = some ⟨g, off, none⟩ ∧ w.cell? ⟨g, off + i * 2, none⟩ = some (.int .u64 (o.cells[i]).1) ∧ w.cell? ⟨g, off + i * 2 + 1, none⟩ = some (.int .u64 (o.cells[i]).2))
theorem OutAt.keep {w w' : World} {o : OU} {cs : List Value} (h : OutAt w o cs) (hk : ∀ (a : Addr) (v : Value), w.cell? a = some v → w'.cell? a = some v) : OutAt w' o cs := by
  obtain ⟨p1, c1, p2, c2, p3, c3, h1, h2, h3, h4, h5⟩ := h
  refine ⟨p1, c1, p2, c2, p3, c3, h1, h2, fun i hi => ?_, fun i hi => ?_, fun i hi => ?_⟩
  · obtain ⟨g, off, q, cp, e1, e2, e3, e4⟩ := h3 i hi
    refine ⟨g, off, q, cp, e1, hk _ _ e2, e3, fun j hj => ?_⟩
    obtain ⟨g2, off2, e5, e6⟩ := e4 j hj
    exact ⟨g2, off2, e5, hk _ _ e6⟩
  · obtain ⟨g, off, q, cp, e1, e2, e3⟩ := h4 i hi
    exact ⟨g, off, q, cp, e1, hk _ _ e2, e3⟩
  · obtain ⟨g, off, e1, e2, e3⟩ := h5 i hi
    exact ⟨g, off, e1, hk _ _ e2, hk _ _ e3⟩
theorem OutAt.below {w w' : World} {o : OU} {cs : List Value} (h : OutAt w o cs) (hb : Below w.heap.size w w') : OutAt w' o cs :=
  h.keep fun a v hc => (hb.cell (World.block_lt_of_cell? w a hc)).trans hc
theorem list_of {α : Type} {P : Nat → α → Prop} : ∀ n : Nat, (∀ i, i < n → ∃ x, P i x) → ∃ l : List α, l.length = n ∧ ∀ i (h : i < l.length), P i l[i]
  | 0, _ => ⟨[], rfl, fun i h => by simp at h⟩
  | n + 1, h => by
    obtain ⟨l, hl, hp⟩ := list_of n (fun i hi => h i (by omega))
    obtain ⟨x, hx⟩ := h n (by omega)
    refine ⟨l ++ [x], by simp [hl], fun i hi => ?_⟩
    simp at hi
    by_cases hin : i < l.length
    · rw [List.getElem_append_left hin]; exact hp i hin
    · have : i = l.length := by omega
      subst this
      rw [List.getElem_append_right (by omega)]
      simp only [Nat.sub_self, List.getElem_cons_zero]
      rw [hl]; exact hx
theorem spot_of {w : World} {ad : Addr} {n : Nat} {v : Value} (h : w.cell? ((ad.add (0 * n)).add 0) = some v) : ad.spot = none := by
  simp only [Addr.add, Nat.zero_mul, if_true] at h
  unfold World.cell? at h
  cases hs : ad.spot with
  | none => rfl
  | some q => rw [hs] at h; split at h <;> simp at h
theorem list1 {α : Type} {l : List α} (h : l.length = 1) : ∃ a, l = [a] := by
  match l, h with
  | [a], _ => exact ⟨a, rfl⟩
theorem list2o {α : Type} {l : List α} (h : l.length = 2) : ∃ a b, l = [a, b] := by
  match l, h with
  | [a, b], _ => exact ⟨a, b, rfl⟩
theorem list3o {α : Type} {l : List α} (h : l.length = 3) : ∃ a b c, l = [a, b, c] := by
  match l, h with
  | [a, b, c], _ => exact ⟨a, b, c, rfl⟩
/-- The elements of a slice that came in, each with its cells. -/
theorem elems_of {P : Program} {w : World} {t e : TypeId} {cs : List Value} (ht : P.underlying t = some (.slice e)) (h : Opens P w t cs) (h0 : 0 < P.cellsOf e) :
    ∃ (p : Option Addr) (len cap : Nat), cs = [.slice p len cap] ∧ len ≤ cap ∧ cap ≤ maxLen ∧ ∀ i, i < len → ∃ (g off : Nat) (es : List Value), p = some ⟨g, off, none⟩ ∧ es.length = P.cellsOf e ∧ (∀ j, j < P.cellsOf e → w.cell? ⟨g, off + i * P.cellsOf e + j, none⟩ = es[j]?) ∧ Opens P w e es := by
  rcases opens_slice ht h with rfl | ⟨ad, len, cap, rfl, h1, h2, hi⟩
  · exact ⟨none, 0, 0, rfl, Nat.le_refl _, by decide, fun i hi => by omega⟩
  · refine ⟨some ad, len, cap, rfl, h1, h2, fun i hil => ?_⟩
    have hsp : ad.spot = none := by
      obtain ⟨es, hl, hcell, _⟩ := hi 0 (by omega)
      have c0 := hcell 0 h0
      rw [List.getElem?_eq_getElem (by omega)] at c0
      exact spot_of c0
    obtain ⟨b, off, sp⟩ := ad
    simp only at hsp
    subst hsp
    obtain ⟨es, hl, hcell, ho⟩ := hi i hil
    refine ⟨b, off, es, rfl, hl, fun j hj => ?_, ho⟩
    have := hcell j hj
    rw [addr_add, addr_add] at this
    exact this
set_option maxHeartbeats 1600000 in
theorem out_of {w : World} {cs : List Value} (h : Opens Try.prog w 48 cs) : ∃ o, OutAt w o cs := by
  obtain ⟨hl, hi⟩ := opens_struct Try.underlying48 h
  have e3 : Try.prog.cellsOf 48 = 3 := by kernel_rfl
  have ea : Try.prog.cellsOf 44 = 1 := by kernel_rfl
  have eb : Try.prog.cellsOf 45 = 1 := by kernel_rfl
  have ec : Try.prog.cellsOf 46 = 1 := by kernel_rfl
  have ed : Try.prog.cellsOf 72 = 1 := by kernel_rfl
  have ee : Try.prog.cellsOf 75 = 1 := by kernel_rfl
  have ef : Try.prog.cellsOf 74 = 2 := by kernel_rfl
  have eg : Try.prog.cellsOf 22 = 1 := by kernel_rfl
  rw [e3] at hl
  obtain ⟨s1, s2, s3, rfl⟩ := list3o hl
  have f0 : Opens Try.prog w 44 (List.take (Try.prog.cellsOf 44) (List.drop 0 [s1, s2, s3])) := hi 0 _ rfl
  have f1 : Opens Try.prog w 45 (List.take (Try.prog.cellsOf 45) (List.drop 1 [s1, s2, s3])) := hi 1 _ rfl
  have f2 : Opens Try.prog w 46 (List.take (Try.prog.cellsOf 46) (List.drop 2 [s1, s2, s3])) := hi 2 _ rfl
  rw [ea] at f0
  rw [eb] at f1
  rw [ec] at f2
  simp only [List.drop_zero, List.drop_succ_cons, List.take_succ_cons, List.take_zero] at f0 f1 f2
  obtain ⟨p1, n1, c1, g1, b1, d1, r1⟩ := elems_of Try.underlying44 f0 (by rw [ed]; decide)
  obtain ⟨p2, n2, c2, g2, b2, d2, r2⟩ := elems_of Try.underlying45 f1 (by rw [ee]; decide)
  obtain ⟨p3, n3, c3, g3, b3, d3, r3⟩ := elems_of Try.underlying46 f2 (by rw [ef]; decide)
  injection g1 with g1
  injection g2 with g2
  injection g3 with g3
  subst g1 g2 g3
  rw [ed] at r1
  rw [ee] at r2
  rw [ef] at r3
  unfold maxLen at d1 d2 d3
  have q1 := list_of (P := fun i (row : List Int) => ∃ (g off : Nat) (q : Option Addr) (cp : Nat), p1 = some ⟨g, off, none⟩ ∧ w.cell? ⟨g, off + i, none⟩ = some (.slice q row.length cp) ∧ row.length ≤ 9223372036854775807 ∧
      ∀ j (hj : j < row.length), ∃ g2 off2 : Nat, q = some ⟨g2, off2, none⟩ ∧ w.cell? ⟨g2, off2 + j, none⟩ = some (.int .u64 (row[j]))) n1 (fun i hi => by
    obtain ⟨g, off, es, hp, hes, hcell, ho⟩ := r1 i hi
    obtain ⟨q, len, cap, rfl, hb, hd, hr⟩ := elems_of Try.underlying72 ho (by rw [eg]; decide)
    rw [eg] at hr
    unfold maxLen at hd
    have c0 := hcell 0 (by omega)
    simp only [Nat.mul_one, Nat.add_zero, List.getElem?_cons_zero] at c0
    obtain ⟨row, hrl, hrow⟩ := list_of (P := fun j (x : Int) => ∃ g2 off2 : Nat, q = some ⟨g2, off2, none⟩ ∧ w.cell? ⟨g2, off2 + j, none⟩ = some (.int .u64 x)) len (fun j hj => by
      obtain ⟨g2, off2, xs, hq, hxs, hxc, hxo⟩ := hr j hj
      obtain ⟨x, rfl, _⟩ := opens_int Try.underlying22 hxo
      have := hxc 0 (by omega)
      simp only [Nat.mul_one, Nat.add_zero, List.getElem?_cons_zero] at this
      exact ⟨x, g2, off2, hq, this⟩)
    exact ⟨row, g, off, q, cap, hp, by rw [hrl]; exact c0, by omega, fun j hj => hrow j hj⟩)
  have q2 := list_of (P := fun i (n : Nat) => ∃ (g off : Nat) (q : Option Addr) (cp : Nat), p2 = some ⟨g, off, none⟩ ∧ w.cell? ⟨g, off + i, none⟩ = some (.slice q n cp) ∧ n ≤ 9223372036854775807) n2 (fun i hi => by
    obtain ⟨g, off, es, hp, hes, hcell, ho⟩ := r2 i hi
    have hfc : 0 < Try.prog.cellsOf 107 := of_decide_eq_true (by kernel_rfl)
    obtain ⟨q, len, cap, rfl, hb, hd, _⟩ := elems_of Try.underlying75 ho hfc
    unfold maxLen at hd
    have c0 := hcell 0 (by omega)
    simp only [Nat.mul_one, Nat.add_zero, List.getElem?_cons_zero] at c0
    exact ⟨len, g, off, q, cap, hp, c0, by omega⟩)
  have q3 := list_of (P := fun i (x : Int × Int) => ∃ g off : Nat, p3 = some ⟨g, off, none⟩ ∧ w.cell? ⟨g, off + i * 2, none⟩ = some (.int .u64 x.1) ∧ w.cell? ⟨g, off + i * 2 + 1, none⟩ = some (.int .u64 x.2)) n3 (fun i hi => by
    obtain ⟨g, off, es, hp, hes, hcell, ho⟩ := r3 i hi
    obtain ⟨_, hf⟩ := opens_struct Try.underlying74 ho
    obtain ⟨y0, y1, rfl⟩ := list2o hes
    have k0 : Opens Try.prog w 22 (List.take (Try.prog.cellsOf 22) (List.drop 0 [y0, y1])) := hf 0 _ rfl
    have k1 : Opens Try.prog w 22 (List.take (Try.prog.cellsOf 22) (List.drop 1 [y0, y1])) := hf 1 _ rfl
    rw [eg] at k0 k1
    simp only [List.drop_zero, List.drop_succ_cons, List.take_succ_cons, List.take_zero] at k0 k1
    obtain ⟨x, m0, _⟩ := opens_int Try.underlying22 k0
    obtain ⟨y, m1, _⟩ := opens_int Try.underlying22 k1
    injection m0 with m0
    injection m1 with m1
    subst m0 m1
    exact ⟨(x, y), g, off, hp, hcell 0 (by omega), hcell 1 (by omega)⟩)
  obtain ⟨l1, k1, j1⟩ := q1
  obtain ⟨l2, k2, j2⟩ := q2
  obtain ⟨l3, k3, j3⟩ := q3
  subst k1 k2 k3
  exact ⟨⟨l1, l2, l3⟩, p1, c1, p2, c2, p3, c3, rfl, ⟨by simp only; omega, by simp only; omega, by simp only; omega⟩, j1, j2, j3⟩
theorem open_out {H : Type} {enc : TypeId × Value → H} {w : World} {base : Nat} {spare : Nat → Bool} {held : Bool} {r : Reach} {b0 : Nat} {v : Value} {d : DataW H} {ps : List MemPlace}
    (hv : Value.okWide Try.prog w r b0 48 v) (h : DataW.Trod enc Try.prog w base spare held 48 v d ps) : ∃ (o : OU) (cs : List Value), v = .agg cs.toArray ∧ OutAt w o cs := by
  obtain ⟨cs, rfl, hsz⟩ := okWide_struct Try.underlying48 hv
  obtain ⟨o, ho⟩ := out_of (opens_of h)
  exact ⟨o, cs.toList, by simp, ho⟩
/-- A list of outcomes that came in. -/
def OutsAt (w : World) (p : Option Addr) (l : List OU) : Prop :=
  ∀ i (h : i < l.length), ∃ (g off : Nat) (es : List Value), p = some ⟨g, off, none⟩ ∧ es.length = 3 ∧ (∀ j, j < 3 → w.cell? ⟨g, off + i * 3 + j, none⟩ = es[j]?) ∧ OutAt w l[i] es
theorem OutsAt.below {w w' : World} {p : Option Addr} {l : List OU} (h : OutsAt w p l) (hb : Below w.heap.size w w') : OutsAt w' p l := fun i hi => by
  obtain ⟨g, off, es, h1, h2, h3, h4⟩ := h i hi
  refine ⟨g, off, es, h1, h2, fun j hj => ?_, h4.below hb⟩
  have := h3 j hj
  rw [List.getElem?_eq_getElem (show j < es.length by omega)] at this ⊢
  exact (hb.cell (World.block_lt_of_cell? w _ this)).trans this
theorem open_outs {H : Type} {enc : TypeId × Value → H} {w : World} {base : Nat} {spare : Nat → Bool} {held : Bool} {r : Reach} {b0 : Nat} {v : Value} {d : DataW H} {ps : List MemPlace}
    (hv : Value.okWide Try.prog w r b0 51 v) (h : DataW.Trod enc Try.prog w base spare held 51 v d ps) : ∃ (p : Option Addr) (cap : Nat) (l : List OU), v = .slice p l.length cap ∧ l.length ≤ cap ∧ cap ≤ 9223372036854775807 ∧ OutsAt w p l := by
  obtain ⟨a, len, cap, rfl⟩ := okWide_slice Try.underlying51 hv
  have ho := opens_of h
  change Opens Try.prog w 51 [.slice a len cap] at ho
  have e3 : Try.prog.cellsOf 48 = 3 := by kernel_rfl
  obtain ⟨p, n, c, e, h1, h2, hr⟩ := elems_of Try.underlying51 ho (by rw [e3]; decide)
  injection e with e
  injection e with e1 e2 e4
  subst e1 e2 e4
  rw [e3] at hr
  unfold maxLen at h2
  obtain ⟨l, hl, hp⟩ := list_of (P := fun i (o : OU) => ∃ (g off : Nat) (es : List Value), a = some ⟨g, off, none⟩ ∧ es.length = 3 ∧ (∀ j, j < 3 → w.cell? ⟨g, off + i * 3 + j, none⟩ = es[j]?) ∧ OutAt w o es) len (fun i hi => by
    obtain ⟨g, off, es, k1, k2, k3, k4⟩ := hr i hi
    obtain ⟨o, ho⟩ := out_of k4
    exact ⟨o, g, off, es, k1, k2, k3, ho⟩)
  subst hl
  exact ⟨a, cap, l, rfl, h1, by omega, hp⟩
end Go.Proofs.Yteepoohcdmjmhaa
