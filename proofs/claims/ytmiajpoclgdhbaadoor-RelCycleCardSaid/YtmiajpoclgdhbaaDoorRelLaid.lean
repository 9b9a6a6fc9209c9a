/- The library's table, as the rows list it; arguments opened. -/
import Derived.Test.YtmiajpoclgdhbaaDoorCards
import Derived.Test.YtmiajpoclgdhbaaDoorTie
import Derived.Deep.DeepHandedRow
import Derived.Lib.LaidTab
import Derived.Test.YtmiajpoclgdhbaaDoorRelBoth
import Derived.Test.YtmiajpoclgdhbaaDoorOpens
namespace Go.Proofs.YtmiajpoclgdhbaaDoor
open Go.RowKit Go.ChangeShapes Go.WideShapes Go.ChangeAt
set_option linter.unusedVariables false

def TABZ : List Int := [0, 1, 56, 2, 57, 49, 28, 3, 61, 58, 42, 50, 38, 29, 17, 4, 62, 47, 59, 36, 45, 43, 51, 22, 53, 39, 33, 30, 24, 18, 12, 5, 63, 55, 48, 27, 60, 41, 37, 16, 46, 35, 44, 21, 52, 32, 23, 11, 54, 26, 40, 15, 34, 20, 31, 10, 25, 14, 19, 9, 13, 8, 7, 6]
def TABN : String := "math/bits.deBruijn64tab"
theorem gTab : Tryd.prog.globalNamed TABN = some 0 := by kernel_rfl
theorem gTabType : (Tryd.prog.globals[0]?).map (·.type) = some 81 := by kernel_rfl
theorem cellsTab : Tryd.prog.cellsOf 81 = 64 := by kernel_rfl
theorem cellsU8 : Tryd.prog.cellsOf 5 = 1 := by kernel_rfl
theorem tabW_of {W : World} (h : laidMetH Tryd.prog [(TABN, Rows.laid_math_bits_deBruijn64tab)] W) : TabW W := by
  have ht : Lib.TabIs Tryd.prog W TABN .u8 TABZ := Lib.tabIs_of_head (rest := []) gTab gTabType Tryd.underlying81 Tryd.underlying5 cellsU8 cellsTab h
  refine ⟨World.block_lt_of_cell? W _ (ht.cell gTab 0 (by decide)), fun j hj => ?_⟩
  have hc := ht.cell gTab j hj
  rw [hc]
  congr 2
  have : ∀ j, j < 64 → TABZ.getD j 0 = ((Lib.deBruijn64tab.getD j 0 : Nat) : Int) := by decide
  exact this j hj

theorem list2' {es : List Value} (h : es.length = 2) : ∃ a b, es = [a, b] := by
  match es, h with
  | [a, b], _ => exact ⟨a, b, rfl⟩
/-- Pairs that came in. -/
theorem open_pairs {H : Type} {enc : TypeId × Value → H} {w : World} {base : Nat} {spare : Nat → Bool} {held : Bool} {r : Reach} {b0 : Nat} {v : Value} {d : DataW H} {ps : List MemPlace}
    (hv : Value.okWide Tryd.prog w r b0 22 v) (h : DataW.Trod enc Tryd.prog w base spare held 22 v d ps) :
    ∃ (p : Option Addr) (cap : Nat) (l : List (Int × Int)), v = .slice p l.length cap ∧ l.length ≤ 9223372036854775807 ∧ l.length ≤ cap ∧ Rds w 2 p l.length (pairCells l) := by
  obtain ⟨a, len, cap, rfl⟩ := okWide_slice Tryd.underlying22 hv
  have ho := opens_of h
  change Opens Tryd.prog w 22 [.slice a len cap] at ho
  rcases opens_slice Tryd.underlying22 ho with e | ⟨ad, len', cap', e, hlc, hcm, hi⟩
  · injection e with e
    injection e with e1 e2 e3
    subst e1 e2 e3
    exact ⟨none, 0, [], rfl, by simp, by simp, by simp [pairCells], fun h => by simp at h⟩
  · injection e with e
    injection e with e1 e2 e3
    subst e1 e2 e3
    have e2 : Tryd.prog.cellsOf 51 = 2 := by kernel_rfl
    have e1 : Tryd.prog.cellsOf 3 = 1 := by kernel_rfl
    have hsp : 0 < len → ad.spot = none := by
      intro h0
      obtain ⟨es, hl, hcell, hes⟩ := hi 0 h0
      rw [e2] at hl hcell
      obtain ⟨y0, y1, rfl⟩ := list2' hl
      have c0 := hcell 0 (by omega)
      simp only [Addr.add, Nat.zero_mul, if_true, List.getElem?_cons_zero] at c0
      unfold World.cell? at c0
      cases hs : ad.spot with
      | none => rfl
      | some q => rw [hs] at c0; split at c0 <;> simp at c0
    have hz : ∀ i, i < len → ∃ x y : Int, w.cell? ⟨ad.block, ad.off + i * 2, none⟩ = some (.int .i64 x) ∧ w.cell? ⟨ad.block, ad.off + i * 2 + 1, none⟩ = some (.int .i64 y) := by
      intro i hil
      have hs0 := hsp (by omega)
      obtain ⟨es, hl, hcell, hes⟩ := hi i hil
      obtain ⟨_, hf⟩ := opens_array Tryd.underlying51 hes
      have f0 := hf 0 (by decide)
      have f1 := hf 1 (by decide)
      rw [e1] at f0 f1
      rw [e2] at hl hcell
      obtain ⟨y0, y1, rfl⟩ := list2' hl
      simp only [Nat.zero_mul, Nat.one_mul, List.drop_zero, List.drop_succ_cons, List.take_succ_cons, List.take_zero] at f0 f1
      obtain ⟨x, g0, _⟩ := opens_int Tryd.underlying3 f0
      obtain ⟨y, g1, _⟩ := opens_int Tryd.underlying3 f1
      injection g0 with g0
      injection g1 with g1
      subst g0 g1
      have c0 := hcell 0 (by omega)
      have c1 := hcell 1 (by omega)
      obtain ⟨b, off, sp⟩ := ad
      simp only at hs0
      subst hs0
      rw [addr_add, addr_add] at c0 c1
      exact ⟨x, y, c0, c1⟩
    let l : List (Int × Int) := (List.range len).map fun i => (intOf ((w.cell? ⟨ad.block, ad.off + i * 2, none⟩).getD undef), intOf ((w.cell? ⟨ad.block, ad.off + i * 2 + 1, none⟩).getD undef))
    have hll : l.length = len := by simp [l]
    have hpl : (pairCells l).length = l.length * 2 := by
      have : ∀ l : List (Int × Int), (pairCells l).length = l.length * 2 := by
        intro l
        induction l with
        | nil => rfl
        | cons r l ih => rw [pairCells, List.flatMap_cons, List.length_append]; show 2 + (pairCells l).length = _; rw [ih]; simp; omega
      exact this l
    refine ⟨some ad, cap, l, by rw [hll], by unfold maxLen at hcm; omega, by omega, hpl, fun h0 => ?_⟩
    have hs0 := hsp (by omega)
    refine ⟨ad.block, ad.off, by obtain ⟨b, off, sp⟩ := ad; simp only at hs0; subst hs0; rfl, fun j hj => ?_⟩
    have hi2 : j / 2 < l.length := by omega
    obtain ⟨g0, g1⟩ := pairCells_get l (j / 2) hi2
    obtain ⟨x, y, c0, c1⟩ := hz (j / 2) (by omega)
    have ex : l[j / 2] = (x, y) := by
      simp only [l, List.getElem_map, List.getElem_range]
      rw [c0, c1]; rfl
    rw [ex] at g0 g1
    by_cases hm : j % 2 = 0
    · have : j = j / 2 * 2 := by omega
      rw [this, g0]; exact c0
    · have : j = j / 2 * 2 + 1 := by omega
      rw [this, g1]; exact c1
theorem open_bools {H : Type} {enc : TypeId × Value → H} {w : World} {base : Nat} {spare : Nat → Bool} {held : Bool} {r : Reach} {b0 : Nat} {v : Value} {d : DataW H} {ps : List MemPlace}
    (hv : Value.okWide Tryd.prog w r b0 23 v) (h : DataW.Trod enc Tryd.prog w base spare held 23 v d ps) :
    ∃ (p : Option Addr) (cap : Nat) (sm : List Bool), v = .slice p sm.length cap ∧ sm.length ≤ 9223372036854775807 ∧ sm.length ≤ cap ∧ Rds w 1 p sm.length (sm.map Value.bool) := by
  obtain ⟨a, len, cap, rfl⟩ := okWide_slice Tryd.underlying23 hv
  have ho := opens_of h
  change Opens Tryd.prog w 23 [.slice a len cap] at ho
  rcases opens_slice Tryd.underlying23 ho with e | ⟨ad, len', cap', e, hlc, hcm, hi⟩
  · injection e with e
    injection e with e1 e2 e3
    subst e1 e2 e3
    exact ⟨none, 0, [], rfl, by simp, by simp, by simp, fun h => by simp at h⟩
  · injection e with e
    injection e with e1 e2 e3
    subst e1 e2 e3
    have e1 : Tryd.prog.cellsOf 4 = 1 := by kernel_rfl
    have hz0 : ∀ i, i < len → ∃ x : Bool, w.cell? (ad.add i) = some (.bool x) := by
      intro i hil
      obtain ⟨es, hl, hcell, hes⟩ := hi i hil
      obtain ⟨x, rfl⟩ := opens_bool Tryd.underlying4 hes
      have h0 := hcell 0 (by omega)
      rw [e1, Nat.mul_one] at h0
      exact ⟨x, by simpa [Addr.add] using h0⟩
    have hsp : 0 < len → ad.spot = none := by
      intro h0
      obtain ⟨x, h2⟩ := hz0 0 h0
      simp only [Addr.add, if_true] at h2
      unfold World.cell? at h2
      cases hs : ad.spot with
      | none => rfl
      | some q => rw [hs] at h2; split at h2 <;> simp at h2
    have hz : ∀ i, i < len → ∃ x : Bool, w.cell? ⟨ad.block, ad.off + i, none⟩ = some (.bool x) := by
      intro i hil
      have hs0 := hsp (by omega)
      obtain ⟨x, hx⟩ := hz0 i hil
      obtain ⟨b, off, sp⟩ := ad
      simp only at hs0
      subst hs0
      rw [addr_add] at hx
      exact ⟨x, hx⟩
    let sm : List Bool := (List.range len).map fun i => match w.cell? ⟨ad.block, ad.off + i, none⟩ with | some (.bool x) => x | _ => false
    have hll : sm.length = len := by simp [sm]
    refine ⟨some ad, cap, sm, by rw [hll], by unfold maxLen at hcm; omega, by omega, by simp, fun h0 => ?_⟩
    have hs0 := hsp (by omega)
    refine ⟨ad.block, ad.off, by obtain ⟨b, off, sp⟩ := ad; simp only at hs0; subst hs0; rfl, fun j hj => ?_⟩
    have hj2 : j < sm.length := by omega
    obtain ⟨x, hx⟩ := hz j (by omega)
    have ex : sm[j] = x := by
      simp only [sm, List.getElem_map, List.getElem_range]
      rw [hx]
    rw [hx, List.getElem?_map, List.getElem?_eq_getElem hj2, ex]; rfl
end Go.Proofs.YtmiajpoclgdhbaaDoor
