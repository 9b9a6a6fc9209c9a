/-
  No cell of these rows narrows 'for every input' (looked for: loops, veiled, ifaces, maps, wideKeys, modest, calm, conditions, laid).
  DERIVED. THE GIVEN ROWS OF THIS SEAT. 5 by the template 'for every input the law returns true; each argument reads behind the call as it read before'; 0 by the template 'total and deterministic' (their statements: YtikflhigenijdaaTotals.lean).
  GIVEN WITH THE SEED: the statements are not yours to turn. If you find one false, say at which input.
  Laid BY PROGRAM, IN A SANDBOX (cutbox-rows.mjs): the forced cells as the released guide's own fill.sh prints them over the translation ecd0ac8aa819b8a7… (all of the seat's roots in one cut). By AI agents, Wed Nov 11 2026. No macro, syntax, notation, axiom, sorry.
-/
import Derived.Test.YtikflhigenijdaaChecked
import GoSem.Claim
import GoSem.ClaimJoined
import GoSem.ClaimMapViews
import Derived.JoinedTies
import Derived.KernelRfl
namespace Go.Proofs.Ytikflhigenijdaa
/- THE CELL 'sum', in the pinned program and in every row, IS THE sha256 OF THE DUMP (.gsa) THAT YtikflhigenijdaaProg.lean LOADS. Nothing in Lean hashes anything: it is a label: what it is worth is what the hold of that sum in a sandbox is worth. -/
noncomputable def Try.pinned : Pinned := { name := "ytikflhigenijdaa", sum := "ecd0ac8aa819b8a7d2d42cc9eab90482dcaf2f133656814ff123643e2b6567a1", checked := Try.checked }
namespace Rows
def none {H : Type} : Left H := { results := [], args := [] }

/-- 'granulelaw05.RegsSets': WHATEVER THE INPUT: true; the input reads as it did. -/
def regsSetsSpec : ChangeSpec := { name := "regsSets", fn := fun _ => fun
  | [d1, d2, d3] => { results := [.lit (.bool true)], args := [d1, d2, d3] }
  | _ => none }
def regsSetsRow : OpenClaim := { program := "ytikflhigenijdaa", sum := "ecd0ac8aa819b8a7d2d42cc9eab90482dcaf2f133656814ff123643e2b6567a1", func := "granule/granulelaw05.RegsSets", spec := "regsSets", apart := false }
def RegsSetsSaid : Prop := regsSetsRow.holds Try.pinned (OpenSpec.ofChange regsSetsSpec)

/-- ITS FALSE NEIGHBOUR: 'it returns false'. Refute it at one input. -/
def regsSetsWrong : ChangeSpec := { name := "regsSets", fn := fun _ => fun
  | [d1, d2, d3] => { results := [.lit (.bool false)], args := [d1, d2, d3] }
  | _ => none }
def RegsSetsWrongFalsely : Prop := regsSetsRow.holds Try.pinned (OpenSpec.ofChange regsSetsWrong)

/-- 'granulelaw05.RegsNext': WHATEVER THE INPUT: true; the input reads as it did. -/
def regsNextSpec : ChangeSpec := { name := "regsNext", fn := fun _ => fun
  | [d1, d2, d3] => { results := [.lit (.bool true)], args := [d1, d2, d3] }
  | _ => none }
def regsNextRow : OpenClaim := { program := "ytikflhigenijdaa", sum := "ecd0ac8aa819b8a7d2d42cc9eab90482dcaf2f133656814ff123643e2b6567a1", func := "granule/granulelaw05.RegsNext", spec := "regsNext", apart := false }
def RegsNextSaid : Prop := regsNextRow.holds Try.pinned (OpenSpec.ofChange regsNextSpec)

/-- ITS FALSE NEIGHBOUR: 'it returns false'. Refute it at one input. -/
def regsNextWrong : ChangeSpec := { name := "regsNext", fn := fun _ => fun
  | [d1, d2, d3] => { results := [.lit (.bool false)], args := [d1, d2, d3] }
  | _ => none }
def RegsNextWrongFalsely : Prop := regsNextRow.holds Try.pinned (OpenSpec.ofChange regsNextWrong)

/-- 'granulelaw05.RegsChange': WHATEVER THE INPUT: true; the input reads as it did. -/
def regsChangeSpec : ChangeSpec := { name := "regsChange", fn := fun _ => fun
  | [d1, d2] => { results := [.lit (.bool true)], args := [d1, d2] }
  | _ => none }
def regsChangeRow : OpenClaim := { program := "ytikflhigenijdaa", sum := "ecd0ac8aa819b8a7d2d42cc9eab90482dcaf2f133656814ff123643e2b6567a1", func := "granule/granulelaw05.RegsChange", spec := "regsChange", apart := false }
def RegsChangeSaid : Prop := regsChangeRow.holds Try.pinned (OpenSpec.ofChange regsChangeSpec)

/-- ITS FALSE NEIGHBOUR: 'it returns false'. Refute it at one input. -/
def regsChangeWrong : ChangeSpec := { name := "regsChange", fn := fun _ => fun
  | [d1, d2] => { results := [.lit (.bool false)], args := [d1, d2] }
  | _ => none }
def RegsChangeWrongFalsely : Prop := regsChangeRow.holds Try.pinned (OpenSpec.ofChange regsChangeWrong)

/-- 'granulelaw05.RegsHang': WHATEVER THE INPUT: true; the input reads as it did. -/
def regsHangSpec : ChangeSpec := { name := "regsHang", fn := fun _ => fun
  | [d1, d2, d3] => { results := [.lit (.bool true)], args := [d1, d2, d3] }
  | _ => none }
def regsHangRow : OpenClaim := { program := "ytikflhigenijdaa", sum := "ecd0ac8aa819b8a7d2d42cc9eab90482dcaf2f133656814ff123643e2b6567a1", func := "granule/granulelaw05.RegsHang", spec := "regsHang", apart := false }
def RegsHangSaid : Prop := regsHangRow.holds Try.pinned (OpenSpec.ofChange regsHangSpec)

/-- ITS FALSE NEIGHBOUR: 'it returns false'. Refute it at one input. -/
def regsHangWrong : ChangeSpec := { name := "regsHang", fn := fun _ => fun
  | [d1, d2, d3] => { results := [.lit (.bool false)], args := [d1, d2, d3] }
  | _ => none }
def RegsHangWrongFalsely : Prop := regsHangRow.holds Try.pinned (OpenSpec.ofChange regsHangWrong)

/-- 'granulelaw05.RegsTells': WHATEVER THE INPUT: true; the input reads as it did. -/
def regsTellsSpec : ChangeSpec := { name := "regsTells", fn := fun _ => fun
  | [d] => { results := [.lit (.bool true)], args := [d] }
  | _ => none }
def regsTellsRow : OpenClaim := { program := "ytikflhigenijdaa", sum := "ecd0ac8aa819b8a7d2d42cc9eab90482dcaf2f133656814ff123643e2b6567a1", func := "granule/granulelaw05.RegsTells", spec := "regsTells", apart := false }
def RegsTellsSaid : Prop := regsTellsRow.holds Try.pinned (OpenSpec.ofChange regsTellsSpec)

/-- ITS FALSE NEIGHBOUR: 'it returns false'. Refute it at one input. -/
def regsTellsWrong : ChangeSpec := { name := "regsTells", fn := fun _ => fun
  | [d] => { results := [.lit (.bool false)], args := [d] }
  | _ => none }
def RegsTellsWrongFalsely : Prop := regsTellsRow.holds Try.pinned (OpenSpec.ofChange regsTellsWrong)

/- THE SECOND FORM. 'bulk': how many values and letters a reading holds, each counted each time it is reached (what is shared counts as often as it is met; a slice's spare places count too). A statement '..UptoSaid' is the law's where the arguments, and the package variables that the reading takes, are together of bulk at most 1048576: NARROWER than '..Said'. Prove '..Said' where nothing that the law and all that it calls make is longer than what came in: it says more and counts as full. Else prove '..UptoSaid'. A law counts once. -/
mutual
def uptoBulk {H : Type} : DataW H → Nat
  | .lit (.string bytes) => bytes.length + 1
  | .lit _ => 1
  | .nil => 1
  | .ptr d => uptoBulk d + 1
  | .slice elems spare => uptoBulkAll elems + uptoBulkAll spare + 1
  | .agg parts => uptoBulkAll parts + 1
  | .iface _ d => uptoBulk d + 1
  | .map entries => uptoBulkEntries entries + 1
  | .held _ => 1
def uptoBulkAll {H : Type} : List (DataW H) → Nat
  | [] => 0
  | d :: r => uptoBulk d + uptoBulkAll r
def uptoBulkEntries {H : Type} : List (Lit × DataW H) → Nat
  | [] => 0
  | x :: r => uptoBulkEntry x + uptoBulkEntries r
def uptoBulkEntry {H : Type} : Lit × DataW H → Nat
  | (.string bytes, d) => bytes.length + uptoBulk d + 1
  | (_, d) => uptoBulk d + 1
 end
def uptoSmall : (H : Type) → List (DataW H) → Bool := fun _ ds => decide (uptoBulkAll ds ≤ 1048576)
def OpenSpec.upto (s : _root_.Go.ChangeSpec) : _root_.Go.OpenSpec := { _root_.Go.OpenSpec.ofChange s with cond := some uptoSmall }

/-- 'granulelaw05.RegsSets', WHERE WHAT IT READS IS OF BULK AT MOST 1048576: true; the input reads as it did. -/
def regsSetsUptoRow : OpenClaim := { program := "ytikflhigenijdaa", sum := "ecd0ac8aa819b8a7d2d42cc9eab90482dcaf2f133656814ff123643e2b6567a1", func := "granule/granulelaw05.RegsSets", spec := "regsSets", apart := false, narrowed := true }
def RegsSetsUptoSaid : Prop := regsSetsUptoRow.holds Try.pinned (OpenSpec.upto regsSetsSpec)

/-- 'granulelaw05.RegsNext', WHERE WHAT IT READS IS OF BULK AT MOST 1048576: true; the input reads as it did. -/
def regsNextUptoRow : OpenClaim := { program := "ytikflhigenijdaa", sum := "ecd0ac8aa819b8a7d2d42cc9eab90482dcaf2f133656814ff123643e2b6567a1", func := "granule/granulelaw05.RegsNext", spec := "regsNext", apart := false, narrowed := true }
def RegsNextUptoSaid : Prop := regsNextUptoRow.holds Try.pinned (OpenSpec.upto regsNextSpec)

/-- 'granulelaw05.RegsChange', WHERE WHAT IT READS IS OF BULK AT MOST 1048576: true; the input reads as it did. -/
def regsChangeUptoRow : OpenClaim := { program := "ytikflhigenijdaa", sum := "ecd0ac8aa819b8a7d2d42cc9eab90482dcaf2f133656814ff123643e2b6567a1", func := "granule/granulelaw05.RegsChange", spec := "regsChange", apart := false, narrowed := true }
def RegsChangeUptoSaid : Prop := regsChangeUptoRow.holds Try.pinned (OpenSpec.upto regsChangeSpec)

/-- 'granulelaw05.RegsHang', WHERE WHAT IT READS IS OF BULK AT MOST 1048576: true; the input reads as it did. -/
def regsHangUptoRow : OpenClaim := { program := "ytikflhigenijdaa", sum := "ecd0ac8aa819b8a7d2d42cc9eab90482dcaf2f133656814ff123643e2b6567a1", func := "granule/granulelaw05.RegsHang", spec := "regsHang", apart := false, narrowed := true }
def RegsHangUptoSaid : Prop := regsHangUptoRow.holds Try.pinned (OpenSpec.upto regsHangSpec)

/-- 'granulelaw05.RegsTells', WHERE WHAT IT READS IS OF BULK AT MOST 1048576: true; the input reads as it did. -/
def regsTellsUptoRow : OpenClaim := { program := "ytikflhigenijdaa", sum := "ecd0ac8aa819b8a7d2d42cc9eab90482dcaf2f133656814ff123643e2b6567a1", func := "granule/granulelaw05.RegsTells", spec := "regsTells", apart := false, narrowed := true }
def RegsTellsUptoSaid : Prop := regsTellsUptoRow.holds Try.pinned (OpenSpec.upto regsTellsSpec)

end Rows
end Go.Proofs.Ytikflhigenijdaa
