/-
  NARROWER THAN 'FOR EVERY INPUT', by the rows' own cells (each row's printed sentence says how): RelTotal: laid · RelOrder: laid · RelSpreads: laid · RelMakes: laid · RelHas: laid · RelClosure: laid · RelWithin: laid · RelCycle: laid · RelThen: laid · RelMerges: laid.
  DERIVED. THE GIVEN ROWS OF THIS SEAT. 10 by the template 'for every input the law returns true; each argument reads behind the call as it read before'; 0 by the template 'total and deterministic' (their statements: YtmiajpoclgdhbaaDoorTotals.lean).
  GIVEN WITH THE SEED: the statements are not yours to turn. If you find one false, say at which input.
  Laid BY PROGRAM, IN A SANDBOX (cutbox-rows.mjs): the forced cells as the released guide's own fill.sh prints them over the translation 16695938eb05ea60… (all of the seat's roots in one cut). By AI agents, Wed Nov 11 2026. No macro, syntax, notation, axiom, sorry.
-/
import Derived.Test.YtmiajpoclgdhbaaDoorChecked
import GoSem.Claim
import GoSem.ClaimJoined
import GoSem.ClaimMapViews
import Derived.JoinedTies
import Derived.KernelRfl
namespace Go.Proofs.YtmiajpoclgdhbaaDoor
/- THE CELL 'sum', in the pinned program and in every row, IS THE sha256 OF THE DUMP (.gsa) THAT YtmiajpoclgdhbaaDoorProg.lean LOADS. Nothing in Lean hashes anything: it is a label: what it is worth is what the hold of that sum in a sandbox is worth. -/
noncomputable def Tryd.pinned : Pinned := { name := "ytmiajpoclgdhbaadoor", sum := "16695938eb05ea6051f8ce06c63b95e6edaf8cd406477c6b9fd6ea5485343560", checked := Tryd.checked }
namespace Rows
def none {H : Type} : Left H := { results := [], args := [] }

/- WHAT THE LISTED PACKAGE-LEVEL VARIABLES READ AS WHEN THE CALL BEGINS. Each datum BY PROGRAM (the guide's laid-datum.mjs) off the statement by which the dump's own 'gosem.cut.vars' lays the variable. In a bare row this is a premise. The card (YtmiajpoclgdhbaaDoorCards.lean) ties it to the program's text. -/
def laid_math_bits_deBruijn64tab {H : Type} : DataW H := .agg [.lit (.int .u8 0), .lit (.int .u8 1), .lit (.int .u8 56), .lit (.int .u8 2), .lit (.int .u8 57), .lit (.int .u8 49), .lit (.int .u8 28), .lit (.int .u8 3), .lit (.int .u8 61), .lit (.int .u8 58), .lit (.int .u8 42), .lit (.int .u8 50), .lit (.int .u8 38), .lit (.int .u8 29), .lit (.int .u8 17), .lit (.int .u8 4), .lit (.int .u8 62), .lit (.int .u8 47), .lit (.int .u8 59), .lit (.int .u8 36), .lit (.int .u8 45), .lit (.int .u8 43), .lit (.int .u8 51), .lit (.int .u8 22), .lit (.int .u8 53), .lit (.int .u8 39), .lit (.int .u8 33), .lit (.int .u8 30), .lit (.int .u8 24), .lit (.int .u8 18), .lit (.int .u8 12), .lit (.int .u8 5), .lit (.int .u8 63), .lit (.int .u8 55), .lit (.int .u8 48), .lit (.int .u8 27), .lit (.int .u8 60), .lit (.int .u8 41), .lit (.int .u8 37), .lit (.int .u8 16), .lit (.int .u8 46), .lit (.int .u8 35), .lit (.int .u8 44), .lit (.int .u8 21), .lit (.int .u8 52), .lit (.int .u8 32), .lit (.int .u8 23), .lit (.int .u8 11), .lit (.int .u8 54), .lit (.int .u8 26), .lit (.int .u8 40), .lit (.int .u8 15), .lit (.int .u8 34), .lit (.int .u8 20), .lit (.int .u8 31), .lit (.int .u8 10), .lit (.int .u8 25), .lit (.int .u8 14), .lit (.int .u8 19), .lit (.int .u8 9), .lit (.int .u8 13), .lit (.int .u8 8), .lit (.int .u8 7), .lit (.int .u8 6)]

/-- 'granulelaw01.RelTotal': WHATEVER THE INPUT: true; the input reads as it did. -/
def relTotalSpec : ChangeSpec := { name := "relTotal", fn := fun _ => fun
  | [d1, d2, d3] => { results := [.lit (.bool true)], args := [d1, d2, d3] }
  | _ => none }
def relTotalRow : OpenClaim := { program := "ytmiajpoclgdhbaadoor", sum := "16695938eb05ea6051f8ce06c63b95e6edaf8cd406477c6b9fd6ea5485343560", func := "granule/granulelaw01.RelTotal", spec := "relTotal", named := ["math/bits.deBruijn64tab"], apart := false, laid := [("math/bits.deBruijn64tab", laid_math_bits_deBruijn64tab)] }
def RelTotalSaid : Prop := relTotalRow.holds Tryd.pinned (OpenSpec.ofChange relTotalSpec)

/-- ITS FALSE NEIGHBOUR: 'it returns false'. Refute it at one input. -/
def relTotalWrong : ChangeSpec := { name := "relTotal", fn := fun _ => fun
  | [d1, d2, d3] => { results := [.lit (.bool false)], args := [d1, d2, d3] }
  | _ => none }
def RelTotalWrongFalsely : Prop := relTotalRow.holds Tryd.pinned (OpenSpec.ofChange relTotalWrong)

/-- 'granulelaw01.RelOrder': WHATEVER THE INPUT: true; the input reads as it did. -/
def relOrderSpec : ChangeSpec := { name := "relOrder", fn := fun _ => fun
  | [d1, d2] => { results := [.lit (.bool true)], args := [d1, d2] }
  | _ => none }
def relOrderRow : OpenClaim := { program := "ytmiajpoclgdhbaadoor", sum := "16695938eb05ea6051f8ce06c63b95e6edaf8cd406477c6b9fd6ea5485343560", func := "granule/granulelaw01.RelOrder", spec := "relOrder", named := ["math/bits.deBruijn64tab"], apart := false, laid := [("math/bits.deBruijn64tab", laid_math_bits_deBruijn64tab)] }
def RelOrderSaid : Prop := relOrderRow.holds Tryd.pinned (OpenSpec.ofChange relOrderSpec)

/-- ITS FALSE NEIGHBOUR: 'it returns false'. Refute it at one input. -/
def relOrderWrong : ChangeSpec := { name := "relOrder", fn := fun _ => fun
  | [d1, d2] => { results := [.lit (.bool false)], args := [d1, d2] }
  | _ => none }
def RelOrderWrongFalsely : Prop := relOrderRow.holds Tryd.pinned (OpenSpec.ofChange relOrderWrong)

/-- 'granulelaw01.RelSpreads': WHATEVER THE INPUT: true; the input reads as it did. -/
def relSpreadsSpec : ChangeSpec := { name := "relSpreads", fn := fun _ => fun
  | [d1, d2, d3] => { results := [.lit (.bool true)], args := [d1, d2, d3] }
  | _ => none }
def relSpreadsRow : OpenClaim := { program := "ytmiajpoclgdhbaadoor", sum := "16695938eb05ea6051f8ce06c63b95e6edaf8cd406477c6b9fd6ea5485343560", func := "granule/granulelaw01.RelSpreads", spec := "relSpreads", unfollowed := true, recurses := true, named := ["math/bits.deBruijn64tab"], apart := false, laid := [("math/bits.deBruijn64tab", laid_math_bits_deBruijn64tab)] }
def RelSpreadsSaid : Prop := relSpreadsRow.holds Tryd.pinned (OpenSpec.ofChange relSpreadsSpec)

/-- ITS FALSE NEIGHBOUR: 'it returns false'. Refute it at one input. -/
def relSpreadsWrong : ChangeSpec := { name := "relSpreads", fn := fun _ => fun
  | [d1, d2, d3] => { results := [.lit (.bool false)], args := [d1, d2, d3] }
  | _ => none }
def RelSpreadsWrongFalsely : Prop := relSpreadsRow.holds Tryd.pinned (OpenSpec.ofChange relSpreadsWrong)

/-- 'granulelaw01.RelMakes': WHATEVER THE INPUT: true; the input reads as it did. -/
def relMakesSpec : ChangeSpec := { name := "relMakes", fn := fun _ => fun
  | [d1, d2] => { results := [.lit (.bool true)], args := [d1, d2] }
  | _ => none }
def relMakesRow : OpenClaim := { program := "ytmiajpoclgdhbaadoor", sum := "16695938eb05ea6051f8ce06c63b95e6edaf8cd406477c6b9fd6ea5485343560", func := "granule/granulelaw01.RelMakes", spec := "relMakes", named := ["math/bits.deBruijn64tab"], apart := false, laid := [("math/bits.deBruijn64tab", laid_math_bits_deBruijn64tab)] }
def RelMakesSaid : Prop := relMakesRow.holds Tryd.pinned (OpenSpec.ofChange relMakesSpec)

/-- ITS FALSE NEIGHBOUR: 'it returns false'. Refute it at one input. -/
def relMakesWrong : ChangeSpec := { name := "relMakes", fn := fun _ => fun
  | [d1, d2] => { results := [.lit (.bool false)], args := [d1, d2] }
  | _ => none }
def RelMakesWrongFalsely : Prop := relMakesRow.holds Tryd.pinned (OpenSpec.ofChange relMakesWrong)

/-- 'granulelaw01.RelHas': WHATEVER THE INPUT: true; the input reads as it did. -/
def relHasSpec : ChangeSpec := { name := "relHas", fn := fun _ => fun
  | [d1, d2, d3] => { results := [.lit (.bool true)], args := [d1, d2, d3] }
  | _ => none }
def relHasRow : OpenClaim := { program := "ytmiajpoclgdhbaadoor", sum := "16695938eb05ea6051f8ce06c63b95e6edaf8cd406477c6b9fd6ea5485343560", func := "granule/granulelaw01.RelHas", spec := "relHas", named := ["math/bits.deBruijn64tab"], apart := false, laid := [("math/bits.deBruijn64tab", laid_math_bits_deBruijn64tab)] }
def RelHasSaid : Prop := relHasRow.holds Tryd.pinned (OpenSpec.ofChange relHasSpec)

/-- ITS FALSE NEIGHBOUR: 'it returns false'. Refute it at one input. -/
def relHasWrong : ChangeSpec := { name := "relHas", fn := fun _ => fun
  | [d1, d2, d3] => { results := [.lit (.bool false)], args := [d1, d2, d3] }
  | _ => none }
def RelHasWrongFalsely : Prop := relHasRow.holds Tryd.pinned (OpenSpec.ofChange relHasWrong)

/-- 'granulelaw01.RelClosure': WHATEVER THE INPUT: true; the input reads as it did. -/
def relClosureSpec : ChangeSpec := { name := "relClosure", fn := fun _ => fun
  | [d1, d2] => { results := [.lit (.bool true)], args := [d1, d2] }
  | _ => none }
def relClosureRow : OpenClaim := { program := "ytmiajpoclgdhbaadoor", sum := "16695938eb05ea6051f8ce06c63b95e6edaf8cd406477c6b9fd6ea5485343560", func := "granule/granulelaw01.RelClosure", spec := "relClosure", named := ["math/bits.deBruijn64tab"], apart := false, laid := [("math/bits.deBruijn64tab", laid_math_bits_deBruijn64tab)] }
def RelClosureSaid : Prop := relClosureRow.holds Tryd.pinned (OpenSpec.ofChange relClosureSpec)

/-- ITS FALSE NEIGHBOUR: 'it returns false'. Refute it at one input. -/
def relClosureWrong : ChangeSpec := { name := "relClosure", fn := fun _ => fun
  | [d1, d2] => { results := [.lit (.bool false)], args := [d1, d2] }
  | _ => none }
def RelClosureWrongFalsely : Prop := relClosureRow.holds Tryd.pinned (OpenSpec.ofChange relClosureWrong)

/-- 'granulelaw01.RelWithin': WHATEVER THE INPUT: true; the input reads as it did. -/
def relWithinSpec : ChangeSpec := { name := "relWithin", fn := fun _ => fun
  | [d1, d2, d3] => { results := [.lit (.bool true)], args := [d1, d2, d3] }
  | _ => none }
def relWithinRow : OpenClaim := { program := "ytmiajpoclgdhbaadoor", sum := "16695938eb05ea6051f8ce06c63b95e6edaf8cd406477c6b9fd6ea5485343560", func := "granule/granulelaw01.RelWithin", spec := "relWithin", named := ["math/bits.deBruijn64tab"], apart := false, laid := [("math/bits.deBruijn64tab", laid_math_bits_deBruijn64tab)] }
def RelWithinSaid : Prop := relWithinRow.holds Tryd.pinned (OpenSpec.ofChange relWithinSpec)

/-- ITS FALSE NEIGHBOUR: 'it returns false'. Refute it at one input. -/
def relWithinWrong : ChangeSpec := { name := "relWithin", fn := fun _ => fun
  | [d1, d2, d3] => { results := [.lit (.bool false)], args := [d1, d2, d3] }
  | _ => none }
def RelWithinWrongFalsely : Prop := relWithinRow.holds Tryd.pinned (OpenSpec.ofChange relWithinWrong)

/-- 'granulelaw01.RelCycle': WHATEVER THE INPUT: true; the input reads as it did. -/
def relCycleSpec : ChangeSpec := { name := "relCycle", fn := fun _ => fun
  | [d1, d2] => { results := [.lit (.bool true)], args := [d1, d2] }
  | _ => none }
def relCycleRow : OpenClaim := { program := "ytmiajpoclgdhbaadoor", sum := "16695938eb05ea6051f8ce06c63b95e6edaf8cd406477c6b9fd6ea5485343560", func := "granule/granulelaw01.RelCycle", spec := "relCycle", named := ["math/bits.deBruijn64tab"], apart := false, laid := [("math/bits.deBruijn64tab", laid_math_bits_deBruijn64tab)] }
def RelCycleSaid : Prop := relCycleRow.holds Tryd.pinned (OpenSpec.ofChange relCycleSpec)

/-- ITS FALSE NEIGHBOUR: 'it returns false'. Refute it at one input. -/
def relCycleWrong : ChangeSpec := { name := "relCycle", fn := fun _ => fun
  | [d1, d2] => { results := [.lit (.bool false)], args := [d1, d2] }
  | _ => none }
def RelCycleWrongFalsely : Prop := relCycleRow.holds Tryd.pinned (OpenSpec.ofChange relCycleWrong)

/-- 'granulelaw01.RelThen': WHATEVER THE INPUT: true; the input reads as it did. -/
def relThenSpec : ChangeSpec := { name := "relThen", fn := fun _ => fun
  | [d1, d2, d3] => { results := [.lit (.bool true)], args := [d1, d2, d3] }
  | _ => none }
def relThenRow : OpenClaim := { program := "ytmiajpoclgdhbaadoor", sum := "16695938eb05ea6051f8ce06c63b95e6edaf8cd406477c6b9fd6ea5485343560", func := "granule/granulelaw01.RelThen", spec := "relThen", named := ["math/bits.deBruijn64tab"], apart := false, laid := [("math/bits.deBruijn64tab", laid_math_bits_deBruijn64tab)] }
def RelThenSaid : Prop := relThenRow.holds Tryd.pinned (OpenSpec.ofChange relThenSpec)

/-- ITS FALSE NEIGHBOUR: 'it returns false'. Refute it at one input. -/
def relThenWrong : ChangeSpec := { name := "relThen", fn := fun _ => fun
  | [d1, d2, d3] => { results := [.lit (.bool false)], args := [d1, d2, d3] }
  | _ => none }
def RelThenWrongFalsely : Prop := relThenRow.holds Tryd.pinned (OpenSpec.ofChange relThenWrong)

/-- 'granulelaw01.RelMerges': WHATEVER THE INPUT: true; the input reads as it did. -/
def relMergesSpec : ChangeSpec := { name := "relMerges", fn := fun _ => fun
  | [d1, d2, d3] => { results := [.lit (.bool true)], args := [d1, d2, d3] }
  | _ => none }
def relMergesRow : OpenClaim := { program := "ytmiajpoclgdhbaadoor", sum := "16695938eb05ea6051f8ce06c63b95e6edaf8cd406477c6b9fd6ea5485343560", func := "granule/granulelaw01.RelMerges", spec := "relMerges", unfollowed := true, recurses := true, named := ["math/bits.deBruijn64tab"], apart := false, laid := [("math/bits.deBruijn64tab", laid_math_bits_deBruijn64tab)] }
def RelMergesSaid : Prop := relMergesRow.holds Tryd.pinned (OpenSpec.ofChange relMergesSpec)

/-- ITS FALSE NEIGHBOUR: 'it returns false'. Refute it at one input. -/
def relMergesWrong : ChangeSpec := { name := "relMerges", fn := fun _ => fun
  | [d1, d2, d3] => { results := [.lit (.bool false)], args := [d1, d2, d3] }
  | _ => none }
def RelMergesWrongFalsely : Prop := relMergesRow.holds Tryd.pinned (OpenSpec.ofChange relMergesWrong)

/- THE SECOND FORM. 'bulk': how many values and letters a reading holds, each counted each time it is reached (what is shared counts as often as it is met; a slice's spare places count too). A statement '..UptoSaid' is the law's where the arguments, and the package variables that the reading takes, are together of bulk at most 1048576: NARROWER than '..Said'. Prove '..Said' where nothing that the law and all that it calls make is longer than what came in: it says more and counts as full. Else prove '..UptoSaid'. A law counts once. -/
mutual
def uptoBulk {H : Type} : DataW H → Nat
  | .lit (.string bytes) => bytes.length + 1
  | .lit _ => 1
  | .nil => 1
  | .ptr d => uptoBulk d + 1
  | .slice elems spare => uptoBulkAll elems + uptoBulkAll spare + 1
  | .agg parts => uptoBulkAll parts + 1
  | .iface _ d => uptoBulk d + 1
  | .map entries => uptoBulkEntries entries + 1
  | .held _ => 1
def uptoBulkAll {H : Type} : List (DataW H) → Nat
  | [] => 0
  | d :: r => uptoBulk d + uptoBulkAll r
def uptoBulkEntries {H : Type} : List (Lit × DataW H) → Nat
  | [] => 0
  | x :: r => uptoBulkEntry x + uptoBulkEntries r
def uptoBulkEntry {H : Type} : Lit × DataW H → Nat
  | (.string bytes, d) => bytes.length + uptoBulk d + 1
  | (_, d) => uptoBulk d + 1
 end
def uptoSmall : (H : Type) → List (DataW H) → Bool := fun _ ds => decide (uptoBulkAll ds ≤ 1048576)
def OpenSpec.upto (s : _root_.Go.ChangeSpec) : _root_.Go.OpenSpec := { _root_.Go.OpenSpec.ofChange s with cond := some uptoSmall }

/-- 'granulelaw01.RelTotal', WHERE WHAT IT READS IS OF BULK AT MOST 1048576: true; the input reads as it did. -/
def relTotalUptoRow : OpenClaim := { program := "ytmiajpoclgdhbaadoor", sum := "16695938eb05ea6051f8ce06c63b95e6edaf8cd406477c6b9fd6ea5485343560", func := "granule/granulelaw01.RelTotal", spec := "relTotal", named := ["math/bits.deBruijn64tab"], apart := false, laid := [("math/bits.deBruijn64tab", laid_math_bits_deBruijn64tab)], narrowed := true }
def RelTotalUptoSaid : Prop := relTotalUptoRow.holds Tryd.pinned (OpenSpec.upto relTotalSpec)

/-- 'granulelaw01.RelOrder', WHERE WHAT IT READS IS OF BULK AT MOST 1048576: true; the input reads as it did. -/
def relOrderUptoRow : OpenClaim := { program := "ytmiajpoclgdhbaadoor", sum := "16695938eb05ea6051f8ce06c63b95e6edaf8cd406477c6b9fd6ea5485343560", func := "granule/granulelaw01.RelOrder", spec := "relOrder", named := ["math/bits.deBruijn64tab"], apart := false, laid := [("math/bits.deBruijn64tab", laid_math_bits_deBruijn64tab)], narrowed := true }
def RelOrderUptoSaid : Prop := relOrderUptoRow.holds Tryd.pinned (OpenSpec.upto relOrderSpec)

/-- 'granulelaw01.RelSpreads', WHERE WHAT IT READS IS OF BULK AT MOST 1048576: true; the input reads as it did. -/
def relSpreadsUptoRow : OpenClaim := { program := "ytmiajpoclgdhbaadoor", sum := "16695938eb05ea6051f8ce06c63b95e6edaf8cd406477c6b9fd6ea5485343560", func := "granule/granulelaw01.RelSpreads", spec := "relSpreads", unfollowed := true, recurses := true, named := ["math/bits.deBruijn64tab"], apart := false, laid := [("math/bits.deBruijn64tab", laid_math_bits_deBruijn64tab)], narrowed := true }
def RelSpreadsUptoSaid : Prop := relSpreadsUptoRow.holds Tryd.pinned (OpenSpec.upto relSpreadsSpec)

/-- 'granulelaw01.RelMakes', WHERE WHAT IT READS IS OF BULK AT MOST 1048576: true; the input reads as it did. -/
def relMakesUptoRow : OpenClaim := { program := "ytmiajpoclgdhbaadoor", sum := "16695938eb05ea6051f8ce06c63b95e6edaf8cd406477c6b9fd6ea5485343560", func := "granule/granulelaw01.RelMakes", spec := "relMakes", named := ["math/bits.deBruijn64tab"], apart := false, laid := [("math/bits.deBruijn64tab", laid_math_bits_deBruijn64tab)], narrowed := true }
def RelMakesUptoSaid : Prop := relMakesUptoRow.holds Tryd.pinned (OpenSpec.upto relMakesSpec)

/-- 'granulelaw01.RelHas', WHERE WHAT IT READS IS OF BULK AT MOST 1048576: true; the input reads as it did. -/
def relHasUptoRow : OpenClaim := { program := "ytmiajpoclgdhbaadoor", sum := "16695938eb05ea6051f8ce06c63b95e6edaf8cd406477c6b9fd6ea5485343560", func := "granule/granulelaw01.RelHas", spec := "relHas", named := ["math/bits.deBruijn64tab"], apart := false, laid := [("math/bits.deBruijn64tab", laid_math_bits_deBruijn64tab)], narrowed := true }
def RelHasUptoSaid : Prop := relHasUptoRow.holds Tryd.pinned (OpenSpec.upto relHasSpec)

/-- 'granulelaw01.RelClosure', WHERE WHAT IT READS IS OF BULK AT MOST 1048576: true; the input reads as it did. -/
def relClosureUptoRow : OpenClaim := { program := "ytmiajpoclgdhbaadoor", sum := "16695938eb05ea6051f8ce06c63b95e6edaf8cd406477c6b9fd6ea5485343560", func := "granule/granulelaw01.RelClosure", spec := "relClosure", named := ["math/bits.deBruijn64tab"], apart := false, laid := [("math/bits.deBruijn64tab", laid_math_bits_deBruijn64tab)], narrowed := true }
def RelClosureUptoSaid : Prop := relClosureUptoRow.holds Tryd.pinned (OpenSpec.upto relClosureSpec)

/-- 'granulelaw01.RelWithin', WHERE WHAT IT READS IS OF BULK AT MOST 1048576: true; the input reads as it did. -/
def relWithinUptoRow : OpenClaim := { program := "ytmiajpoclgdhbaadoor", sum := "16695938eb05ea6051f8ce06c63b95e6edaf8cd406477c6b9fd6ea5485343560", func := "granule/granulelaw01.RelWithin", spec := "relWithin", named := ["math/bits.deBruijn64tab"], apart := false, laid := [("math/bits.deBruijn64tab", laid_math_bits_deBruijn64tab)], narrowed := true }
def RelWithinUptoSaid : Prop := relWithinUptoRow.holds Tryd.pinned (OpenSpec.upto relWithinSpec)

/-- 'granulelaw01.RelCycle', WHERE WHAT IT READS IS OF BULK AT MOST 1048576: true; the input reads as it did. -/
def relCycleUptoRow : OpenClaim := { program := "ytmiajpoclgdhbaadoor", sum := "16695938eb05ea6051f8ce06c63b95e6edaf8cd406477c6b9fd6ea5485343560", func := "granule/granulelaw01.RelCycle", spec := "relCycle", named := ["math/bits.deBruijn64tab"], apart := false, laid := [("math/bits.deBruijn64tab", laid_math_bits_deBruijn64tab)], narrowed := true }
def RelCycleUptoSaid : Prop := relCycleUptoRow.holds Tryd.pinned (OpenSpec.upto relCycleSpec)

/-- 'granulelaw01.RelThen', WHERE WHAT IT READS IS OF BULK AT MOST 1048576: true; the input reads as it did. -/
def relThenUptoRow : OpenClaim := { program := "ytmiajpoclgdhbaadoor", sum := "16695938eb05ea6051f8ce06c63b95e6edaf8cd406477c6b9fd6ea5485343560", func := "granule/granulelaw01.RelThen", spec := "relThen", named := ["math/bits.deBruijn64tab"], apart := false, laid := [("math/bits.deBruijn64tab", laid_math_bits_deBruijn64tab)], narrowed := true }
def RelThenUptoSaid : Prop := relThenUptoRow.holds Tryd.pinned (OpenSpec.upto relThenSpec)

/-- 'granulelaw01.RelMerges', WHERE WHAT IT READS IS OF BULK AT MOST 1048576: true; the input reads as it did. -/
def relMergesUptoRow : OpenClaim := { program := "ytmiajpoclgdhbaadoor", sum := "16695938eb05ea6051f8ce06c63b95e6edaf8cd406477c6b9fd6ea5485343560", func := "granule/granulelaw01.RelMerges", spec := "relMerges", unfollowed := true, recurses := true, named := ["math/bits.deBruijn64tab"], apart := false, laid := [("math/bits.deBruijn64tab", laid_math_bits_deBruijn64tab)], narrowed := true }
def RelMergesUptoSaid : Prop := relMergesUptoRow.holds Tryd.pinned (OpenSpec.upto relMergesSpec)

end Rows
end Go.Proofs.YtmiajpoclgdhbaaDoor
