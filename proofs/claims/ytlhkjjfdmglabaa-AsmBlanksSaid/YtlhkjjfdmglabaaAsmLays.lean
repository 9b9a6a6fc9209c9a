/- strings.IndexAny at a text's parts: the shelf's contracts laid at this program. -/
import Derived.Test.YtlhkjjfdmglabaaRows
import Derived.Test.YtlhkjjfdmglabaaBase
import Derived.Shelf.Strings.IndexAnyAll
import Derived.Laws.RangeAny
namespace Go.Proofs.Ytlhkjjfdmglabaa
open Go.Shelf

def lays153_ren : Ren := ⟨fun | 153 => 31 | 152 => 52 | 226 => 53 | 227 => 54 | 228 => 55 | 137 => 65 | 119 => 66 | 224 => 67 | 225 => 68 | 217 => 72 | 266 => 74 | n => n, fun | 9 => 9 | 3 => 3 | 4 => 4 | 5 => 5 | 21 => 21 | 117 => 66 | 116 => 65 | 0 => 0 | 46 => 76 | 124 => 77 | n => n, fun n => n⟩
theorem lays153 : Lays.n153 Try.prog lays153_ren := {
  mixed := by kernel_rfl,
  f119 := by kernel_rfl,
  f137 := by kernel_rfl,
  f152 := by kernel_rfl,
  f153 := by kernel_rfl,
  f217 := by kernel_rfl,
  f224 := by kernel_rfl,
  f225 := by kernel_rfl,
  f226 := by kernel_rfl,
  f227 := by kernel_rfl,
  f228 := by kernel_rfl,
  f266 := by kernel_rfl,
  t0 := by kernel_rfl,
  a0 := fun _ => by kernel_rfl,
  z0 := fun _ => by kernel_rfl,
  v0 := fun _ => by kernel_rfl,
  t3 := by kernel_rfl,
  a3 := fun _ => by kernel_rfl,
  z3 := fun _ => by kernel_rfl,
  v3 := fun _ => by kernel_rfl,
  t4 := by kernel_rfl,
  a4 := fun _ => by kernel_rfl,
  z4 := fun _ => by kernel_rfl,
  v4 := fun _ => by kernel_rfl,
  t5 := by kernel_rfl,
  a5 := fun _ => by kernel_rfl,
  z5 := fun _ => by kernel_rfl,
  v5 := fun _ => by kernel_rfl,
  t9 := by kernel_rfl,
  a9 := fun _ => by kernel_rfl,
  z9 := fun _ => by kernel_rfl,
  v9 := fun _ => by kernel_rfl,
  t21 := by kernel_rfl,
  a21 := fun _ => by kernel_rfl,
  z21 := fun _ => by kernel_rfl,
  v21 := fun _ => by kernel_rfl,
  t46 := by kernel_rfl,
  a46 := fun _ => by kernel_rfl,
  z46 := fun _ => by kernel_rfl,
  v46 := fun _ => by kernel_rfl,
  t116 := by kernel_rfl,
  a116 := fun _ => by kernel_rfl,
  z116 := fun _ => by kernel_rfl,
  t117 := by kernel_rfl,
  a117 := fun _ => by kernel_rfl,
  z117 := fun _ => by kernel_rfl,
  v117 := fun _ => by kernel_rfl,
  t124 := by kernel_rfl,
  a124 := fun _ => by kernel_rfl,
  z124 := fun _ => by kernel_rfl,
  v124 := fun _ => by kernel_rfl }
theorem set153 : (Try.prog.info? (lays153_ren.t 116)).map (fun i => (i.zero, i.size)) = some (some (.agg (Array.replicate 256 (.bool false))), 256) := by kernel_rfl
end Go.Proofs.Ytlhkjjfdmglabaa
