/-
  NARROWER THAN 'FOR EVERY INPUT', by the rows' own cells (each row's printed sentence says how): CondPrints: loops · CondHolds: loops · CondTurns: loops · CondVerdicts: loops · CondRight: loops.
  DERIVED. THE GIVEN ROWS OF THIS SEAT. 5 by the template 'for every input the law returns true; each argument reads behind the call as it read before'; 0 by the template 'total and deterministic' (their statements: YteepoohcdmjmhaaTotals.lean).
  GIVEN WITH THE SEED: the statements are not yours to turn. If you find one false, say at which input.
  Laid BY PROGRAM, IN A SANDBOX (cutbox-rows.mjs): the forced cells as the released guide's own fill.sh prints them over the translation e70c6923b0b30dc7… (all of the seat's roots in one cut). By AI agents, Wed Nov 11 2026. No macro, syntax, notation, axiom, sorry.
-/
import Derived.Test.YteepoohcdmjmhaaChecked
import GoSem.Claim
import GoSem.ClaimJoined
import GoSem.ClaimMapViews
import Derived.JoinedTies
import Derived.KernelRfl
namespace Go.Proofs.Yteepoohcdmjmhaa
/- THE CELL 'sum', in the pinned program and in every row, IS THE sha256 OF THE DUMP (.gsa) THAT YteepoohcdmjmhaaProg.lean LOADS. Nothing in Lean hashes anything: it is a label: what it is worth is what the hold of that sum in a sandbox is worth. -/
noncomputable def Try.pinned : Pinned := { name := "yteepoohcdmjmhaa", sum := "e70c6923b0b30dc731893098fcfc8e391c46a68124c9646fe4e5181d101ea56c", checked := Try.checked }
namespace Rows
def none {H : Type} : Left H := { results := [], args := [] }

/-- 'granulelaw11.CondPrints': WHATEVER THE INPUT: true; the input reads as it did. -/
def condPrintsSpec : ChangeSpec := { name := "condPrints", fn := fun _ => fun
  | [d] => { results := [.lit (.bool true)], args := [d] }
  | _ => none }
def condPrintsRow : OpenClaim := { program := "yteepoohcdmjmhaa", sum := "e70c6923b0b30dc731893098fcfc8e391c46a68124c9646fe4e5181d101ea56c", func := "granule/granulelaw11.CondPrints", spec := "condPrints", recurses := true, loops := true, apart := false }
def CondPrintsSaid : Prop := condPrintsRow.holds Try.pinned (OpenSpec.ofChange condPrintsSpec)

/-- ITS FALSE NEIGHBOUR: 'it returns false'. Refute it at one input. -/
def condPrintsWrong : ChangeSpec := { name := "condPrints", fn := fun _ => fun
  | [d] => { results := [.lit (.bool false)], args := [d] }
  | _ => none }
def CondPrintsWrongFalsely : Prop := condPrintsRow.holds Try.pinned (OpenSpec.ofChange condPrintsWrong)

/-- 'granulelaw11.CondHolds': WHATEVER THE INPUT: true; the input reads as it did. -/
def condHoldsSpec : ChangeSpec := { name := "condHolds", fn := fun _ => fun
  | [d1, d2] => { results := [.lit (.bool true)], args := [d1, d2] }
  | _ => none }
def condHoldsRow : OpenClaim := { program := "yteepoohcdmjmhaa", sum := "e70c6923b0b30dc731893098fcfc8e391c46a68124c9646fe4e5181d101ea56c", func := "granule/granulelaw11.CondHolds", spec := "condHolds", recurses := true, loops := true, apart := false }
def CondHoldsSaid : Prop := condHoldsRow.holds Try.pinned (OpenSpec.ofChange condHoldsSpec)

/-- ITS FALSE NEIGHBOUR: 'it returns false'. Refute it at one input. -/
def condHoldsWrong : ChangeSpec := { name := "condHolds", fn := fun _ => fun
  | [d1, d2] => { results := [.lit (.bool false)], args := [d1, d2] }
  | _ => none }
def CondHoldsWrongFalsely : Prop := condHoldsRow.holds Try.pinned (OpenSpec.ofChange condHoldsWrong)

/-- 'granulelaw11.CondTurns': WHATEVER THE INPUT: true; the input reads as it did. -/
def condTurnsSpec : ChangeSpec := { name := "condTurns", fn := fun _ => fun
  | [d1, d2, d3] => { results := [.lit (.bool true)], args := [d1, d2, d3] }
  | _ => none }
def condTurnsRow : OpenClaim := { program := "yteepoohcdmjmhaa", sum := "e70c6923b0b30dc731893098fcfc8e391c46a68124c9646fe4e5181d101ea56c", func := "granule/granulelaw11.CondTurns", spec := "condTurns", recurses := true, loops := true, apart := false }
def CondTurnsSaid : Prop := condTurnsRow.holds Try.pinned (OpenSpec.ofChange condTurnsSpec)

/-- ITS FALSE NEIGHBOUR: 'it returns false'. Refute it at one input. -/
def condTurnsWrong : ChangeSpec := { name := "condTurns", fn := fun _ => fun
  | [d1, d2, d3] => { results := [.lit (.bool false)], args := [d1, d2, d3] }
  | _ => none }
def CondTurnsWrongFalsely : Prop := condTurnsRow.holds Try.pinned (OpenSpec.ofChange condTurnsWrong)

/-- 'granulelaw11.CondVerdicts': WHATEVER THE INPUT: true; the input reads as it did. -/
def condVerdictsSpec : ChangeSpec := { name := "condVerdicts", fn := fun _ => fun
  | [d1, d2] => { results := [.lit (.bool true)], args := [d1, d2] }
  | _ => none }
def condVerdictsRow : OpenClaim := { program := "yteepoohcdmjmhaa", sum := "e70c6923b0b30dc731893098fcfc8e391c46a68124c9646fe4e5181d101ea56c", func := "granule/granulelaw11.CondVerdicts", spec := "condVerdicts", recurses := true, loops := true, apart := false }
def CondVerdictsSaid : Prop := condVerdictsRow.holds Try.pinned (OpenSpec.ofChange condVerdictsSpec)

/-- ITS FALSE NEIGHBOUR: 'it returns false'. Refute it at one input. -/
def condVerdictsWrong : ChangeSpec := { name := "condVerdicts", fn := fun _ => fun
  | [d1, d2] => { results := [.lit (.bool false)], args := [d1, d2] }
  | _ => none }
def CondVerdictsWrongFalsely : Prop := condVerdictsRow.holds Try.pinned (OpenSpec.ofChange condVerdictsWrong)

/-- 'granulelaw11.CondRight': WHATEVER THE INPUT: true; the input reads as it did. -/
def condRightSpec : ChangeSpec := { name := "condRight", fn := fun _ => fun
  | [d1, d2] => { results := [.lit (.bool true)], args := [d1, d2] }
  | _ => none }
def condRightRow : OpenClaim := { program := "yteepoohcdmjmhaa", sum := "e70c6923b0b30dc731893098fcfc8e391c46a68124c9646fe4e5181d101ea56c", func := "granule/granulelaw11.CondRight", spec := "condRight", recurses := true, loops := true, apart := false }
def CondRightSaid : Prop := condRightRow.holds Try.pinned (OpenSpec.ofChange condRightSpec)

/-- ITS FALSE NEIGHBOUR: 'it returns false'. Refute it at one input. -/
def condRightWrong : ChangeSpec := { name := "condRight", fn := fun _ => fun
  | [d1, d2] => { results := [.lit (.bool false)], args := [d1, d2] }
  | _ => none }
def CondRightWrongFalsely : Prop := condRightRow.holds Try.pinned (OpenSpec.ofChange condRightWrong)

/- THE SECOND FORM. 'bulk': how many values and letters a reading holds, each counted each time it is reached (what is shared counts as often as it is met; a slice's spare places count too). A statement '..UptoSaid' is the law's where the arguments, and the package variables that the reading takes, are together of bulk at most 1048576: NARROWER than '..Said'. Prove '..Said' where nothing that the law and all that it calls make is longer than what came in: it says more and counts as full. Else prove '..UptoSaid'. A law counts once. -/
mutual
def uptoBulk {H : Type} : DataW H → Nat
  | .lit (.string bytes) => bytes.length + 1
  | .lit _ => 1
  | .nil => 1
  | .ptr d => uptoBulk d + 1
  | .slice elems spare => uptoBulkAll elems + uptoBulkAll spare + 1
  | .agg parts => uptoBulkAll parts + 1
  | .iface _ d => uptoBulk d + 1
  | .map entries => uptoBulkEntries entries + 1
  | .held _ => 1
def uptoBulkAll {H : Type} : List (DataW H) → Nat
  | [] => 0
  | d :: r => uptoBulk d + uptoBulkAll r
def uptoBulkEntries {H : Type} : List (Lit × DataW H) → Nat
  | [] => 0
  | x :: r => uptoBulkEntry x + uptoBulkEntries r
def uptoBulkEntry {H : Type} : Lit × DataW H → Nat
  | (.string bytes, d) => bytes.length + uptoBulk d + 1
  | (_, d) => uptoBulk d + 1
 end
def uptoSmall : (H : Type) → List (DataW H) → Bool := fun _ ds => decide (uptoBulkAll ds ≤ 1048576)
def OpenSpec.upto (s : _root_.Go.ChangeSpec) : _root_.Go.OpenSpec := { _root_.Go.OpenSpec.ofChange s with cond := some uptoSmall }

/-- 'granulelaw11.CondPrints', WHERE WHAT IT READS IS OF BULK AT MOST 1048576: true; the input reads as it did. -/
def condPrintsUptoRow : OpenClaim := { program := "yteepoohcdmjmhaa", sum := "e70c6923b0b30dc731893098fcfc8e391c46a68124c9646fe4e5181d101ea56c", func := "granule/granulelaw11.CondPrints", spec := "condPrints", recurses := true, loops := true, apart := false, narrowed := true }
def CondPrintsUptoSaid : Prop := condPrintsUptoRow.holds Try.pinned (OpenSpec.upto condPrintsSpec)

/-- 'granulelaw11.CondHolds', WHERE WHAT IT READS IS OF BULK AT MOST 1048576: true; the input reads as it did. -/
def condHoldsUptoRow : OpenClaim := { program := "yteepoohcdmjmhaa", sum := "e70c6923b0b30dc731893098fcfc8e391c46a68124c9646fe4e5181d101ea56c", func := "granule/granulelaw11.CondHolds", spec := "condHolds", recurses := true, loops := true, apart := false, narrowed := true }
def CondHoldsUptoSaid : Prop := condHoldsUptoRow.holds Try.pinned (OpenSpec.upto condHoldsSpec)

/-- 'granulelaw11.CondTurns', WHERE WHAT IT READS IS OF BULK AT MOST 1048576: true; the input reads as it did. -/
def condTurnsUptoRow : OpenClaim := { program := "yteepoohcdmjmhaa", sum := "e70c6923b0b30dc731893098fcfc8e391c46a68124c9646fe4e5181d101ea56c", func := "granule/granulelaw11.CondTurns", spec := "condTurns", recurses := true, loops := true, apart := false, narrowed := true }
def CondTurnsUptoSaid : Prop := condTurnsUptoRow.holds Try.pinned (OpenSpec.upto condTurnsSpec)

/-- 'granulelaw11.CondVerdicts', WHERE WHAT IT READS IS OF BULK AT MOST 1048576: true; the input reads as it did. -/
def condVerdictsUptoRow : OpenClaim := { program := "yteepoohcdmjmhaa", sum := "e70c6923b0b30dc731893098fcfc8e391c46a68124c9646fe4e5181d101ea56c", func := "granule/granulelaw11.CondVerdicts", spec := "condVerdicts", recurses := true, loops := true, apart := false, narrowed := true }
def CondVerdictsUptoSaid : Prop := condVerdictsUptoRow.holds Try.pinned (OpenSpec.upto condVerdictsSpec)

/-- 'granulelaw11.CondRight', WHERE WHAT IT READS IS OF BULK AT MOST 1048576: true; the input reads as it did. -/
def condRightUptoRow : OpenClaim := { program := "yteepoohcdmjmhaa", sum := "e70c6923b0b30dc731893098fcfc8e391c46a68124c9646fe4e5181d101ea56c", func := "granule/granulelaw11.CondRight", spec := "condRight", recurses := true, loops := true, apart := false, narrowed := true }
def CondRightUptoSaid : Prop := condRightUptoRow.holds Try.pinned (OpenSpec.upto condRightSpec)

end Rows
end Go.Proofs.Yteepoohcdmjmhaa
