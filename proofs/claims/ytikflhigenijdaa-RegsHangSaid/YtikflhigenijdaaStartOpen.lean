/- The law's Start by value, opened. -/
import Derived.Test.YtikflhigenijdaaOpens
import Derived.Test.YtikflhigenijdaaRegsFile
namespace Go.Proofs.Ytikflhigenijdaa
open Go.RowKit Go.WideShapes Go.ChangeShapes

theorem list5 {α : Type} {l : List α} (h : l.length = 5) : ∃ a b c d e, l = [a, b, c, d, e] := by
  match l, h with
  | [a, b, c, d, e], _ => exact ⟨a, b, c, d, e, rfl⟩

theorem open_start {H : Type} {enc : TypeId × Value → H} {w : World} {base : Nat} {spare : Nat → Bool} {held : Bool} {r : Reach} {b0 : Nat} {v : Value} {d : DataW H} {ps : List MemPlace}
    (hv : Value.okWide Try.prog w r b0 26 v) (h : DataW.Trod enc Try.prog w base spare held 26 v d ps) :
    ∃ (p : Option Addr) (zs : List Int) (cap : Nat) (same : Bool) (a b c : Int), v = .agg #[.slice p zs.length cap, .bool same, .int .u64 a, .int .u64 b, .int .u64 c] ∧ zs.length ≤ 9223372036854775807 ∧ SrcAt w p zs := by
  obtain ⟨cs, rfl, _⟩ := okWide_struct Try.underlying26 hv
  obtain ⟨hl, hf⟩ := opens_struct Try.underlying26 (opens_of h)
  have h0 := hf 0 _ rfl
  have h1 := hf 1 _ rfl
  have h2 := hf 2 _ rfl
  have e5 : Try.prog.cellsOf 26 = 5 := by kernel_rfl
  rw [e5] at hl
  change cs.toList.length = 5 at hl
  change Opens Try.prog w 22 ((cs.toList.drop 0).take (Try.prog.cellsOf 22)) at h0
  change Opens Try.prog w 4 ((cs.toList.drop 1).take (Try.prog.cellsOf 4)) at h1
  change Opens Try.prog w 24 ((cs.toList.drop 2).take (Try.prog.cellsOf 24)) at h2
  rw [show Try.prog.cellsOf 22 = 1 by kernel_rfl] at h0
  rw [show Try.prog.cellsOf 4 = 1 by kernel_rfl] at h1
  rw [show Try.prog.cellsOf 24 = 3 by kernel_rfl] at h2
  obtain ⟨x0, x1, x2, x3, x4, hcs⟩ := list5 hl
  rw [hcs] at h0 h1 h2
  simp only [List.drop_zero, List.drop_succ_cons, List.take_succ_cons, List.take_zero] at h0 h1 h2
  obtain ⟨p, cap, zs, e0, hzc, hcm, _, _, hat⟩ := opens_ints Try.underlying22 Try.underlying23 (by kernel_rfl) h0
  obtain ⟨same, e1⟩ := opens_bool Try.underlying4 h1
  obtain ⟨_, ha⟩ := opens_array Try.underlying24 h2
  have a0 := ha 0 (by decide)
  have a1 := ha 1 (by decide)
  have a2 := ha 2 (by decide)
  rw [show Try.prog.cellsOf 23 = 1 by kernel_rfl] at a0 a1 a2
  obtain ⟨a, f0, _⟩ := opens_int Try.underlying23 a0
  obtain ⟨b, f1, _⟩ := opens_int Try.underlying23 a1
  obtain ⟨c, f2, _⟩ := opens_int Try.underlying23 a2
  injection e0 with e0
  injection e1 with e1
  injection f0 with f0
  injection f1 with f1
  injection f2 with f2
  subst e0 e1 f0 f1 f2
  refine ⟨p, zs, cap, same, a, b, c, ?_, by unfold maxLen at hcm; omega, hat⟩
  rw [← hcs]
end Go.Proofs.Ytikflhigenijdaa
