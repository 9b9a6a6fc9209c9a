/- An instruction by value, opened. -/
import Derived.Test.YtlhkjjfdmglabaaBase
import Derived.Lib.SmallJoins
import Derived.Test.YtlhkjjfdmglabaaRows
namespace Go.Proofs.Ytlhkjjfdmglabaa
open Go.RowKit Go.WideShapes Go.ChangeShapes
section
variable {H : Type} {enc : TypeId × Value → H} {P : Program} {w : World} {base : Nat} {spare : Nat → Bool} {held : Bool} {t e : TypeId}

def intFields (P : Program) (fs : Array Field) : Bool :=
  (List.range fs.size).all fun i => match fs[i]? with
    | some f => f.offset == i && P.cellsOf f.type == 1 && (match P.underlying f.type with | some (.int .i64) => true | _ => false)
    | none => true
theorem intFields_at {P : Program} {fs : Array Field} (h : intFields P fs = true) (i : Nat) (f : Field) (hi : fs[i]? = some f) : f.offset = i ∧ P.cellsOf f.type = 1 ∧ P.underlying f.type = some (.int .i64) := by
  have hlt : i < fs.size := (Array.getElem?_eq_some_iff.1 hi).1
  unfold intFields at h
  rw [List.all_eq_true] at h
  have h1 := h i (List.mem_range.2 hlt)
  rw [hi] at h1
  simp only [Bool.and_eq_true, beq_iff_eq] at h1
  obtain ⟨⟨h2, h3⟩, h4⟩ := h1
  refine ⟨h2, h3, ?_⟩
  split at h4
  · assumption
  · cases h4

/-- A struct of one-cell integer fields, opened. -/
theorem open_int_struct {r : Reach} {b0 : Nat} {fs : Array Field} {v : Value} {d : DataW H} {p : List MemPlace} (hs : P.underlying t = some (.struct fs)) (hv : Value.okWide P w r b0 t v) (h : DataW.Trod enc P w base spare held t v d p)
    (hC : P.cellsOf t = fs.size) (hone : intFields P fs = true) :
    ∃ zs : List Int, zs.length = fs.size ∧ v = .agg (zs.map (Value.int .i64)).toArray ∧ ∀ z ∈ zs, (Lit.int .i64 z).wf = true := by
  obtain ⟨cs, rfl, hsz⟩ := okWide_struct hs hv
  obtain ⟨fuel, hf⟩ := h
  have hf' : DataW.trod enc P w base spare held fuel t cs.toList = some (d, p) := hf
  obtain ⟨xs, m, _, _, hl, hx, hi⟩ := DataW.trod_struct hs hf'
  have hat : ∀ i, i < fs.size → ∃ z : Int, cs.toList[i]? = some (.int .i64 z) ∧ (Lit.int .i64 z).wf = true := by
    intro i hin
    have hfi : fs[i]? = some fs[i] := Array.getElem?_eq_getElem hin
    obtain ⟨h1, h2, h3⟩ := intFields_at hone i _ hfi
    have h4 := hi i _ hfi
    rw [h1, h2, show xs[i]? = some xs[i] from List.getElem?_eq_getElem (by omega)] at h4
    obtain ⟨z, hz, _, hw⟩ := DataW.trod_int h3 h4
    refine ⟨z, ?_, hw⟩
    have h5 : cs.toList[i]? = (List.take 1 (List.drop i cs.toList))[0]? := by simp
    rw [h5, hz]; rfl
  have hlen : cs.toList.length = fs.size := by rw [hl, hC]
  refine ⟨cs.toList.map intOf, by rw [List.length_map]; exact hlen, ?_, ?_⟩
  · have : cs.toList = (cs.toList.map intOf).map (Value.int .i64) := by
      apply List.ext_getElem?
      intro i
      by_cases hin : i < fs.size
      · obtain ⟨z, hz, _⟩ := hat i hin
        rw [List.getElem?_map, List.getElem?_map, hz]; rfl
      · rw [List.getElem?_eq_none (by omega), List.getElem?_eq_none (by simp only [List.length_map]; omega)]
    rw [← this]
  · intro z hz
    rw [List.mem_map] at hz
    obtain ⟨c, hcm, rfl⟩ := hz
    obtain ⟨i, hil, rfl⟩ := List.getElem_of_mem hcm
    obtain ⟨z, hz, hw⟩ := hat i (by omega)
    rw [List.getElem?_eq_getElem hil] at hz
    have : cs.toList[i] = .int .i64 z := Option.some.inj hz
    rw [this]; exact hw
end

theorem list6 {α : Type} {l : List α} (h : l.length = 6) : ∃ a b c d e f, l = [a, b, c, d, e, f] := by
  match l, h with
  | [a, b, c, d, e, f], _ => exact ⟨a, b, c, d, e, f, rfl⟩
section
variable {H : Type} {enc : TypeId × Value → H} {w : World} {base : Nat} {spare : Nat → Bool} {held : Bool}
theorem open_instr {r : Reach} {b0 : Nat} {v : Value} {d : DataW H} {p : List MemPlace} (hv : Value.okWide Try.prog w r b0 23 v) (h : DataW.Trod enc Try.prog w base spare held 23 v d p) :
    ∃ a b c e f k : Int, v = .agg #[.int .i64 a, .int .i64 b, .int .i64 c, .int .i64 e, .int .i64 f, .int .i64 k] ∧ ∀ z ∈ [a, b, c, e, f, k], (Lit.int .i64 z).wf = true := by
  obtain ⟨zs, hl, rfl, hw⟩ := open_int_struct Try.underlying23 hv h (by kernel_rfl) (by kernel_rfl)
  obtain ⟨a, b, c, e, f, k, rfl⟩ := list6 (l := zs) hl
  exact ⟨a, b, c, e, f, k, rfl, hw⟩
end
end Go.Proofs.Ytlhkjjfdmglabaa
