/- What can be read of cells, by their type: arguments are opened by it. -/
import Derived.Test.YtlhkjjfdmglabaaRds
import Derived.OpenShut
import Derived.ShutString
namespace Go.Proofs.Ytlhkjjfdmglabaa
open Go.RowKit Go.WideShapes Go.ChangeShapes

/-- These cells read as data of type t. -/
def Opens (P : Program) (w : World) (t : TypeId) (cs : List Value) : Prop :=
  ∃ (H : Type) (enc : TypeId × Value → H) (base : Nat) (spare : Nat → Bool) (held : Bool) (fuel : Nat) (x : DataW H × List MemPlace), DataW.trod enc P w base spare held fuel t cs = some x

section
variable {P : Program} {w : World} {t e : TypeId} {cs : List Value}
theorem opens_of {H : Type} {enc : TypeId × Value → H} {base : Nat} {spare : Nat → Bool} {held : Bool} {v : Value} {d : DataW H} {p : List MemPlace} (h : DataW.Trod enc P w base spare held t v d p) : Opens P w t v.cells.toList := by
  obtain ⟨fuel, hf⟩ := h
  exact ⟨H, enc, base, spare, held, fuel, (d, p), hf⟩
theorem opens_int {k : IntKind} (ht : P.underlying t = some (.int k)) (h : Opens P w t cs) : ∃ n, cs = [.int k n] ∧ (Lit.int k n).wf = true := by
  obtain ⟨_, _, _, _, _, _, _, hf⟩ := h
  obtain ⟨n, h1, _, h2⟩ := DataW.trod_int ht hf
  exact ⟨n, h1, h2⟩
theorem opens_bool (ht : P.underlying t = some .bool) (h : Opens P w t cs) : ∃ b, cs = [.bool b] := by
  obtain ⟨_, _, _, _, _, _, _, hf⟩ := h
  obtain ⟨b, h1, _⟩ := DataW.trod_bool ht hf
  exact ⟨b, h1⟩
theorem opens_string (ht : P.underlying t = some .string) (h : Opens P w t cs) : ∃ s : ByteArray, cs = [.string s] ∧ s.size ≤ maxLen := by
  obtain ⟨_, _, _, _, _, _, _, hf⟩ := h
  obtain ⟨s, h1, _, h2⟩ := DataW.trod_string ht hf
  exact ⟨s, h1, h2⟩
theorem opens_struct {fs : Array Field} (ht : P.underlying t = some (.struct fs)) (h : Opens P w t cs) :
    cs.length = P.cellsOf t ∧ ∀ (i : Nat) (f : Field), fs[i]? = some f → Opens P w f.type ((cs.drop f.offset).take (P.cellsOf f.type)) := by
  obtain ⟨H, enc, base, spare, held, fuel, x, hf⟩ := h
  obtain ⟨xs, n, _, _, hl, hx, hi⟩ := DataW.trod_struct ht hf
  refine ⟨hl, fun i f hf' => ?_⟩
  have hlt : i < fs.size := (Array.getElem?_eq_some_iff.1 hf').1
  have h1 := hi i f hf'
  rw [List.getElem?_eq_getElem (show i < xs.length by omega)] at h1
  exact ⟨H, enc, base, spare, held, n, _, h1⟩
theorem opens_array {n : Nat} (ht : P.underlying t = some (.array n e)) (h : Opens P w t cs) :
    cs.length = P.cellsOf t ∧ ∀ i, i < n → Opens P w e ((cs.drop (i * P.cellsOf e)).take (P.cellsOf e)) := by
  obtain ⟨H, enc, base, spare, held, fuel, x, hf⟩ := h
  obtain ⟨xs, m, _, _, hl, hx, hi⟩ := DataW.trod_array ht hf
  refine ⟨hl, fun i hin => ?_⟩
  have h1 := hi i hin
  rw [List.getElem?_eq_getElem (show i < xs.length by omega)] at h1
  exact ⟨H, enc, base, spare, held, m, _, h1⟩
theorem opens_slice (ht : P.underlying t = some (.slice e)) (h : Opens P w t cs) :
    cs = [.slice none 0 0] ∨ ∃ (a : Addr) (len cap : Nat), cs = [.slice (some a) len cap] ∧ len ≤ cap ∧ cap ≤ maxLen ∧
      ∀ i, i < len → ∃ es, es.length = P.cellsOf e ∧ (∀ j, j < P.cellsOf e → w.cell? ((a.add (i * P.cellsOf e)).add j) = es[j]?) ∧ Opens P w e es := by
  obtain ⟨H, enc, base, spare, held, fuel, x, hf⟩ := h
  rcases DataW.trod_slice ht hf with ⟨h1, _⟩ | ⟨a, len, cap, elems, rest, n, _, h1, _, _, hlc, hcm, hel, hi, _, _⟩
  · exact .inl h1
  · refine .inr ⟨a, len, cap, h1, hlc, hcm, fun i hil => ?_⟩
    have h2 := hi i hil
    rw [List.getElem?_eq_getElem (show i < elems.length by omega)] at h2
    obtain ⟨es, h3, h4⟩ := Option.bind_eq_some_iff.1 h2
    obtain ⟨_, h5, h6⟩ := World.cells?_some h3
    exact ⟨es, h5, h6, H, enc, base, spare, held, n, _, h4⟩

/-- A slice of integers: its numbers. -/
theorem opens_ints {k : IntKind} (ht : P.underlying t = some (.slice e)) (he : P.underlying e = some (.int k)) (hc : P.cellsOf e = 1) (h : Opens P w t cs) :
    ∃ (p : Option Addr) (cap : Nat) (zs : List Int), cs = [.slice p zs.length cap] ∧ zs.length ≤ cap ∧ cap ≤ maxLen ∧ (∀ z ∈ zs, (Lit.int k z).wf = true) ∧
      (p = none → zs = [] ∧ cap = 0) ∧ ∀ j, j < zs.length → ∃ b off, p = some ⟨b, off, none⟩ ∧ w.cell? ⟨b, off + j, none⟩ = some (.int k (zs.getD j 0)) := by
  rcases opens_slice ht h with rfl | ⟨a, len, cap, rfl, hlc, hcm, hi⟩
  · exact ⟨none, 0, [], rfl, Nat.le_refl _, by unfold maxLen; omega, (fun _ h => by cases h), fun _ => ⟨rfl, rfl⟩, fun j hj => by cases hj⟩
  · have hz : ∀ i, i < len → ∃ z : Int, w.cell? (a.add i) = some (.int k z) ∧ (Lit.int k z).wf = true := by
      intro i hil
      obtain ⟨es, hl, hcell, ho⟩ := hi i hil
      obtain ⟨z, rfl, hw⟩ := opens_int he ho
      have h0 := hcell 0 (by omega)
      rw [hc, Nat.mul_one] at h0
      exact ⟨z, by simpa [Addr.add] using h0, hw⟩
    let zs : List Int := (List.range len).map fun i => intOf ((w.cell? (a.add i)).getD undef)
    have hzl : zs.length = len := by simp [zs]
    have hat : ∀ i (hil : i < len), w.cell? (a.add i) = some (.int k (zs.getD i 0)) ∧ (Lit.int k (zs.getD i 0)).wf = true := by
      intro i hil
      obtain ⟨z, h1, h2⟩ := hz i hil
      have : zs.getD i 0 = z := by simp [zs, List.getD, hil, h1, intOf]
      rw [this]; exact ⟨h1, h2⟩
    refine ⟨some a, cap, zs, by rw [hzl], by omega, hcm, ?_, (fun h => by cases h), fun j hj => ?_⟩
    · intro z hm
      obtain ⟨i, hil, rfl⟩ := List.getElem_of_mem hm
      have := (hat i (by omega)).2
      simpa [List.getD, List.getElem?_eq_getElem hil] using this
    · have h1 := (hat j (by omega)).1
      have hsp : a.spot = none := by
        by_cases h0 : a.spot = none
        · exact h0
        · exfalso
          have h2 := (hat 0 (by omega)).1
          simp only [Addr.add, if_pos] at h2
          unfold World.cell? at h2
          cases hs : a.spot with
          | none => exact h0 hs
          | some x => rw [hs] at h2; split at h2 <;> simp at h2
      obtain ⟨b, off, sp⟩ := a
      simp only at hsp
      subst hsp
      refine ⟨b, off, rfl, ?_⟩
      rw [← addr_add]; exact h1
/-- A slice of integers that came in. -/
theorem open_ints_arg {H : Type} {enc : TypeId × Value → H} {base : Nat} {spare : Nat → Bool} {held : Bool} {r : Reach} {b0 : Nat} {v : Value} {d : DataW H} {ps : List MemPlace} {k : IntKind} (ht : P.underlying t = some (.slice e)) (he : P.underlying e = some (.int k)) (hc : P.cellsOf e = 1)
    (hv : Value.okWide P w r b0 t v) (h : DataW.Trod enc P w base spare held t v d ps) :
    ∃ (p : Option Addr) (cap : Nat) (zs : List Int), v = .slice p zs.length cap ∧ zs.length ≤ 9223372036854775807 ∧ Rds w 1 p zs.length (zs.map (Value.int k)) ∧ ∀ z ∈ zs, (Lit.int k z).wf = true := by
  obtain ⟨a, len, cap, rfl⟩ := okWide_slice ht hv
  have ho := opens_of h
  change Opens P w t [.slice a len cap] at ho
  obtain ⟨p, cap', zs, e0, hzc, hcm, hw, _, hat⟩ := opens_ints ht he hc ho
  injection e0 with e0
  refine ⟨p, cap', zs, e0, by unfold maxLen at hcm; omega, ⟨by simp, fun hn => ?_⟩, hw⟩
  obtain ⟨b, off, hp, _⟩ := hat 0 hn
  refine ⟨b, off, hp, fun j hj => ?_⟩
  obtain ⟨b2, off2, hp2, hcell⟩ := hat j (by omega)
  rw [hp] at hp2
  injection hp2 with hp2
  injection hp2 with e1 e2
  subst e1 e2
  rw [hcell]
  simp [List.getD, List.getElem?_eq_getElem (show j < zs.length by omega)]
end
end Go.Proofs.Ytlhkjjfdmglabaa
