/-
  NARROWER THAN 'FOR EVERY INPUT', by the rows' own cells (each row's printed sentence says how): ProperChecks: loops.
  DERIVED. THE GIVEN ROWS OF THIS SEAT. 4 by the template 'for every input the law returns true; each argument reads behind the call as it read before'; 0 by the template 'total and deterministic' (their statements: YtmnojnopejhebaaGreatTotals.lean).
  GIVEN WITH THE SEED: the statements are not yours to turn. If you find one false, say at which input.
  Laid BY PROGRAM, IN A SANDBOX (cutbox-rows.mjs): the forced cells as the released guide's own fill.sh prints them over the translation 633db34f784cebd4… (all of the seat's roots in one cut). By AI agents, Wed Nov 11 2026. No macro, syntax, notation, axiom, sorry.
-/
import Derived.Test.YtmnojnopejhebaaGreatChecked
import GoSem.Claim
import GoSem.ClaimJoined
import GoSem.ClaimMapViews
import Derived.JoinedTies
import Derived.KernelRfl
namespace Go.Proofs.YtmnojnopejhebaaGreat
/- THE CELL 'sum', in the pinned program and in every row, IS THE sha256 OF THE DUMP (.gsa) THAT YtmnojnopejhebaaGreatProg.lean LOADS. Nothing in Lean hashes anything: it is a label: what it is worth is what the hold of that sum in a sandbox is worth. -/
noncomputable def Tryz.pinned : Pinned := { name := "ytmnojnopejhebaagreat", sum := "633db34f784cebd48cb217bdccc4ca4013770c32cdd858dfcceede22d2f900c2", checked := Tryz.checked }
namespace Rows
def none {H : Type} : Left H := { results := [], args := [] }

/-- 'granulelaw13.ProperBack': WHATEVER THE INPUT: true; the input reads as it did. -/
def properBackSpec : ChangeSpec := { name := "properBack", fn := fun _ => fun
  | [d] => { results := [.lit (.bool true)], args := [d] }
  | _ => none }
def properBackRow : OpenClaim := { program := "ytmnojnopejhebaagreat", sum := "633db34f784cebd48cb217bdccc4ca4013770c32cdd858dfcceede22d2f900c2", func := "granule/granulelaw13.ProperBack", spec := "properBack", inPlace := ["internal/bytealg.IndexByteString", "internal/bytealg.IndexString", "internal/abi.NoEscape", "internal/bytealg.MakeNoZero"], unfollowed := true, recurses := true, named := ["internal/bytealg.MaxLen"], apart := false }
def ProperBackSaid : Prop := properBackRow.holds Tryz.pinned (OpenSpec.ofChange properBackSpec)

/-- ITS FALSE NEIGHBOUR: 'it returns false'. Refute it at one input. -/
def properBackWrong : ChangeSpec := { name := "properBack", fn := fun _ => fun
  | [d] => { results := [.lit (.bool false)], args := [d] }
  | _ => none }
def ProperBackWrongFalsely : Prop := properBackRow.holds Tryz.pinned (OpenSpec.ofChange properBackWrong)

/-- 'granulelaw13.ProperPrints': WHATEVER THE INPUT: true; the input reads as it did. -/
def properPrintsSpec : ChangeSpec := { name := "properPrints", fn := fun _ => fun
  | [d] => { results := [.lit (.bool true)], args := [d] }
  | _ => none }
def properPrintsRow : OpenClaim := { program := "ytmnojnopejhebaagreat", sum := "633db34f784cebd48cb217bdccc4ca4013770c32cdd858dfcceede22d2f900c2", func := "granule/granulelaw13.ProperPrints", spec := "properPrints", inPlace := ["internal/bytealg.IndexByteString", "internal/bytealg.IndexString", "internal/abi.NoEscape", "internal/bytealg.MakeNoZero"], unfollowed := true, recurses := true, named := ["internal/bytealg.MaxLen"], apart := false }
def ProperPrintsSaid : Prop := properPrintsRow.holds Tryz.pinned (OpenSpec.ofChange properPrintsSpec)

/-- ITS FALSE NEIGHBOUR: 'it returns false'. Refute it at one input. -/
def properPrintsWrong : ChangeSpec := { name := "properPrints", fn := fun _ => fun
  | [d] => { results := [.lit (.bool false)], args := [d] }
  | _ => none }
def ProperPrintsWrongFalsely : Prop := properPrintsRow.holds Tryz.pinned (OpenSpec.ofChange properPrintsWrong)

/-- 'granulelaw13.ProperChecks': WHATEVER THE INPUT: true; the input reads as it did. -/
def properChecksSpec : ChangeSpec := { name := "properChecks", fn := fun _ => fun
  | [d1, d2, d3] => { results := [.lit (.bool true)], args := [d1, d2, d3] }
  | _ => none }
def properChecksRow : OpenClaim := { program := "ytmnojnopejhebaagreat", sum := "633db34f784cebd48cb217bdccc4ca4013770c32cdd858dfcceede22d2f900c2", func := "granule/granulelaw13.ProperChecks", spec := "properChecks", inPlace := ["internal/bytealg.IndexByteString", "internal/bytealg.IndexString", "internal/abi.NoEscape", "internal/bytealg.MakeNoZero"], unfollowed := true, recurses := true, named := ["internal/bytealg.MaxLen"], loops := true, apart := false }
def ProperChecksSaid : Prop := properChecksRow.holds Tryz.pinned (OpenSpec.ofChange properChecksSpec)

/-- ITS FALSE NEIGHBOUR: 'it returns false'. Refute it at one input. -/
def properChecksWrong : ChangeSpec := { name := "properChecks", fn := fun _ => fun
  | [d1, d2, d3] => { results := [.lit (.bool false)], args := [d1, d2, d3] }
  | _ => none }
def ProperChecksWrongFalsely : Prop := properChecksRow.holds Tryz.pinned (OpenSpec.ofChange properChecksWrong)

/-- 'granulelaw13.ProperMemory': WHATEVER THE INPUT: true; the input reads as it did. -/
def properMemorySpec : ChangeSpec := { name := "properMemory", fn := fun _ => fun
  | [d1, d2] => { results := [.lit (.bool true)], args := [d1, d2] }
  | _ => none }
def properMemoryRow : OpenClaim := { program := "ytmnojnopejhebaagreat", sum := "633db34f784cebd48cb217bdccc4ca4013770c32cdd858dfcceede22d2f900c2", func := "granule/granulelaw13.ProperMemory", spec := "properMemory", inPlace := ["internal/bytealg.IndexByteString", "internal/bytealg.IndexString", "internal/abi.NoEscape", "internal/bytealg.MakeNoZero"], unfollowed := true, recurses := true, named := ["internal/bytealg.MaxLen"], apart := false }
def ProperMemorySaid : Prop := properMemoryRow.holds Tryz.pinned (OpenSpec.ofChange properMemorySpec)

/-- ITS FALSE NEIGHBOUR: 'it returns false'. Refute it at one input. -/
def properMemoryWrong : ChangeSpec := { name := "properMemory", fn := fun _ => fun
  | [d1, d2] => { results := [.lit (.bool false)], args := [d1, d2] }
  | _ => none }
def ProperMemoryWrongFalsely : Prop := properMemoryRow.holds Tryz.pinned (OpenSpec.ofChange properMemoryWrong)

/- THE SECOND FORM. 'bulk': how many values and letters a reading holds, each counted each time it is reached (what is shared counts as often as it is met; a slice's spare places count too). A statement '..UptoSaid' is the law's where the arguments, and the package variables that the reading takes, are together of bulk at most 1048576: NARROWER than '..Said'. Prove '..Said' where nothing that the law and all that it calls make is longer than what came in: it says more and counts as full. Else prove '..UptoSaid'. A law counts once. -/
mutual
def uptoBulk {H : Type} : DataW H → Nat
  | .lit (.string bytes) => bytes.length + 1
  | .lit _ => 1
  | .nil => 1
  | .ptr d => uptoBulk d + 1
  | .slice elems spare => uptoBulkAll elems + uptoBulkAll spare + 1
  | .agg parts => uptoBulkAll parts + 1
  | .iface _ d => uptoBulk d + 1
  | .map entries => uptoBulkEntries entries + 1
  | .held _ => 1
def uptoBulkAll {H : Type} : List (DataW H) → Nat
  | [] => 0
  | d :: r => uptoBulk d + uptoBulkAll r
def uptoBulkEntries {H : Type} : List (Lit × DataW H) → Nat
  | [] => 0
  | x :: r => uptoBulkEntry x + uptoBulkEntries r
def uptoBulkEntry {H : Type} : Lit × DataW H → Nat
  | (.string bytes, d) => bytes.length + uptoBulk d + 1
  | (_, d) => uptoBulk d + 1
 end
def uptoSmall : (H : Type) → List (DataW H) → Bool := fun _ ds => decide (uptoBulkAll ds ≤ 1048576)
def OpenSpec.upto (s : _root_.Go.ChangeSpec) : _root_.Go.OpenSpec := { _root_.Go.OpenSpec.ofChange s with cond := some uptoSmall }

/-- 'granulelaw13.ProperBack', WHERE WHAT IT READS IS OF BULK AT MOST 1048576: true; the input reads as it did. -/
def properBackUptoRow : OpenClaim := { program := "ytmnojnopejhebaagreat", sum := "633db34f784cebd48cb217bdccc4ca4013770c32cdd858dfcceede22d2f900c2", func := "granule/granulelaw13.ProperBack", spec := "properBack", inPlace := ["internal/bytealg.IndexByteString", "internal/bytealg.IndexString", "internal/abi.NoEscape", "internal/bytealg.MakeNoZero"], unfollowed := true, recurses := true, named := ["internal/bytealg.MaxLen"], apart := false, narrowed := true }
def ProperBackUptoSaid : Prop := properBackUptoRow.holds Tryz.pinned (OpenSpec.upto properBackSpec)

/-- 'granulelaw13.ProperPrints', WHERE WHAT IT READS IS OF BULK AT MOST 1048576: true; the input reads as it did. -/
def properPrintsUptoRow : OpenClaim := { program := "ytmnojnopejhebaagreat", sum := "633db34f784cebd48cb217bdccc4ca4013770c32cdd858dfcceede22d2f900c2", func := "granule/granulelaw13.ProperPrints", spec := "properPrints", inPlace := ["internal/bytealg.IndexByteString", "internal/bytealg.IndexString", "internal/abi.NoEscape", "internal/bytealg.MakeNoZero"], unfollowed := true, recurses := true, named := ["internal/bytealg.MaxLen"], apart := false, narrowed := true }
def ProperPrintsUptoSaid : Prop := properPrintsUptoRow.holds Tryz.pinned (OpenSpec.upto properPrintsSpec)

/-- 'granulelaw13.ProperChecks', WHERE WHAT IT READS IS OF BULK AT MOST 1048576: true; the input reads as it did. -/
def properChecksUptoRow : OpenClaim := { program := "ytmnojnopejhebaagreat", sum := "633db34f784cebd48cb217bdccc4ca4013770c32cdd858dfcceede22d2f900c2", func := "granule/granulelaw13.ProperChecks", spec := "properChecks", inPlace := ["internal/bytealg.IndexByteString", "internal/bytealg.IndexString", "internal/abi.NoEscape", "internal/bytealg.MakeNoZero"], unfollowed := true, recurses := true, named := ["internal/bytealg.MaxLen"], loops := true, apart := false, narrowed := true }
def ProperChecksUptoSaid : Prop := properChecksUptoRow.holds Tryz.pinned (OpenSpec.upto properChecksSpec)

/-- 'granulelaw13.ProperMemory', WHERE WHAT IT READS IS OF BULK AT MOST 1048576: true; the input reads as it did. -/
def properMemoryUptoRow : OpenClaim := { program := "ytmnojnopejhebaagreat", sum := "633db34f784cebd48cb217bdccc4ca4013770c32cdd858dfcceede22d2f900c2", func := "granule/granulelaw13.ProperMemory", spec := "properMemory", inPlace := ["internal/bytealg.IndexByteString", "internal/bytealg.IndexString", "internal/abi.NoEscape", "internal/bytealg.MakeNoZero"], unfollowed := true, recurses := true, named := ["internal/bytealg.MaxLen"], apart := false, narrowed := true }
def ProperMemoryUptoSaid : Prop := properMemoryUptoRow.holds Tryz.pinned (OpenSpec.upto properMemorySpec)

end Rows
end Go.Proofs.YtmnojnopejhebaaGreat
