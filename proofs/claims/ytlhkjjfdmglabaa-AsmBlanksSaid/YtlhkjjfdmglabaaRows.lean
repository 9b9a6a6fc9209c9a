/-
  No cell of these rows narrows 'for every input' (looked for: loops, veiled, ifaces, maps, wideKeys, modest, calm, conditions, laid).
  DERIVED. THE GIVEN ROWS OF THIS SEAT. 5 by the template 'for every input the law returns true; each argument reads behind the call as it read before'; 0 by the template 'total and deterministic' (their statements: YtlhkjjfdmglabaaTotals.lean).
  GIVEN WITH THE SEED: the statements are not yours to turn. If you find one false, say at which input.
  Laid BY PROGRAM, IN A SANDBOX (cutbox-rows.mjs): the forced cells as the released guide's own fill.sh prints them over the translation 4d578d2b31b025a1… (all of the seat's roots in one cut). By AI agents, Wed Nov 11 2026. No macro, syntax, notation, axiom, sorry.
-/
import Derived.Test.YtlhkjjfdmglabaaChecked
import GoSem.Claim
import GoSem.ClaimJoined
import GoSem.ClaimMapViews
import Derived.JoinedTies
import Derived.KernelRfl
namespace Go.Proofs.Ytlhkjjfdmglabaa
/- THE CELL 'sum', in the pinned program and in every row, IS THE sha256 OF THE DUMP (.gsa) THAT YtlhkjjfdmglabaaProg.lean LOADS. Nothing in Lean hashes anything: it is a label: what it is worth is what the hold of that sum in a sandbox is worth. -/
noncomputable def Try.pinned : Pinned := { name := "ytlhkjjfdmglabaa", sum := "4d578d2b31b025a1bc494f898e48f6a02a93419f7e62095126fcfef4291dab69", checked := Try.checked }
namespace Rows
def none {H : Type} : Left H := { results := [], args := [] }

/-- 'granulelaw04.AsmPrints': WHATEVER THE INPUT: true; the input reads as it did. -/
def asmPrintsSpec : ChangeSpec := { name := "asmPrints", fn := fun _ => fun
  | [d] => { results := [.lit (.bool true)], args := [d] }
  | _ => none }
def asmPrintsRow : OpenClaim := { program := "ytlhkjjfdmglabaa", sum := "4d578d2b31b025a1bc494f898e48f6a02a93419f7e62095126fcfef4291dab69", func := "granule/granulelaw04.AsmPrints", spec := "asmPrints", inPlace := ["internal/bytealg.IndexByteString", "internal/bytealg.IndexString"], unfollowed := true, recurses := true, named := ["internal/bytealg.MaxLen"], apart := false }
def AsmPrintsSaid : Prop := asmPrintsRow.holds Try.pinned (OpenSpec.ofChange asmPrintsSpec)

/-- ITS FALSE NEIGHBOUR: 'it returns false'. Refute it at one input. -/
def asmPrintsWrong : ChangeSpec := { name := "asmPrints", fn := fun _ => fun
  | [d] => { results := [.lit (.bool false)], args := [d] }
  | _ => none }
def AsmPrintsWrongFalsely : Prop := asmPrintsRow.holds Try.pinned (OpenSpec.ofChange asmPrintsWrong)

/-- 'granulelaw04.AsmBack': WHATEVER THE INPUT: true; the input reads as it did. -/
def asmBackSpec : ChangeSpec := { name := "asmBack", fn := fun _ => fun
  | [d] => { results := [.lit (.bool true)], args := [d] }
  | _ => none }
def asmBackRow : OpenClaim := { program := "ytlhkjjfdmglabaa", sum := "4d578d2b31b025a1bc494f898e48f6a02a93419f7e62095126fcfef4291dab69", func := "granule/granulelaw04.AsmBack", spec := "asmBack", inPlace := ["internal/bytealg.IndexByteString", "internal/bytealg.IndexString"], unfollowed := true, recurses := true, named := ["internal/bytealg.MaxLen"], apart := false }
def AsmBackSaid : Prop := asmBackRow.holds Try.pinned (OpenSpec.ofChange asmBackSpec)

/-- ITS FALSE NEIGHBOUR: 'it returns false'. Refute it at one input. -/
def asmBackWrong : ChangeSpec := { name := "asmBack", fn := fun _ => fun
  | [d] => { results := [.lit (.bool false)], args := [d] }
  | _ => none }
def AsmBackWrongFalsely : Prop := asmBackRow.holds Try.pinned (OpenSpec.ofChange asmBackWrong)

/-- 'granulelaw04.AsmWords': WHATEVER THE INPUT: true; the input reads as it did. -/
def asmWordsSpec : ChangeSpec := { name := "asmWords", fn := fun _ => fun
  | [d] => { results := [.lit (.bool true)], args := [d] }
  | _ => none }
def asmWordsRow : OpenClaim := { program := "ytlhkjjfdmglabaa", sum := "4d578d2b31b025a1bc494f898e48f6a02a93419f7e62095126fcfef4291dab69", func := "granule/granulelaw04.AsmWords", spec := "asmWords", inPlace := ["internal/bytealg.IndexByteString", "internal/bytealg.IndexString"], unfollowed := true, recurses := true, named := ["internal/bytealg.MaxLen"], apart := false }
def AsmWordsSaid : Prop := asmWordsRow.holds Try.pinned (OpenSpec.ofChange asmWordsSpec)

/-- ITS FALSE NEIGHBOUR: 'it returns false'. Refute it at one input. -/
def asmWordsWrong : ChangeSpec := { name := "asmWords", fn := fun _ => fun
  | [d] => { results := [.lit (.bool false)], args := [d] }
  | _ => none }
def AsmWordsWrongFalsely : Prop := asmWordsRow.holds Try.pinned (OpenSpec.ofChange asmWordsWrong)

/-- 'granulelaw04.AsmRegs': WHATEVER THE INPUT: true; the input reads as it did. -/
def asmRegsSpec : ChangeSpec := { name := "asmRegs", fn := fun _ => fun
  | [d1, d2] => { results := [.lit (.bool true)], args := [d1, d2] }
  | _ => none }
def asmRegsRow : OpenClaim := { program := "ytlhkjjfdmglabaa", sum := "4d578d2b31b025a1bc494f898e48f6a02a93419f7e62095126fcfef4291dab69", func := "granule/granulelaw04.AsmRegs", spec := "asmRegs", inPlace := ["internal/bytealg.IndexByteString", "internal/bytealg.IndexString"], unfollowed := true, recurses := true, named := ["internal/bytealg.MaxLen"], apart := false }
def AsmRegsSaid : Prop := asmRegsRow.holds Try.pinned (OpenSpec.ofChange asmRegsSpec)

/-- ITS FALSE NEIGHBOUR: 'it returns false'. Refute it at one input. -/
def asmRegsWrong : ChangeSpec := { name := "asmRegs", fn := fun _ => fun
  | [d1, d2] => { results := [.lit (.bool false)], args := [d1, d2] }
  | _ => none }
def AsmRegsWrongFalsely : Prop := asmRegsRow.holds Try.pinned (OpenSpec.ofChange asmRegsWrong)

/-- 'granulelaw04.AsmBlanks': WHATEVER THE INPUT: true; the input reads as it did. -/
def asmBlanksSpec : ChangeSpec := { name := "asmBlanks", fn := fun _ => fun
  | [d1, d2] => { results := [.lit (.bool true)], args := [d1, d2] }
  | _ => none }
def asmBlanksRow : OpenClaim := { program := "ytlhkjjfdmglabaa", sum := "4d578d2b31b025a1bc494f898e48f6a02a93419f7e62095126fcfef4291dab69", func := "granule/granulelaw04.AsmBlanks", spec := "asmBlanks", inPlace := ["internal/bytealg.IndexByteString", "internal/bytealg.IndexString"], unfollowed := true, recurses := true, named := ["internal/bytealg.MaxLen"], apart := false }
def AsmBlanksSaid : Prop := asmBlanksRow.holds Try.pinned (OpenSpec.ofChange asmBlanksSpec)

/-- ITS FALSE NEIGHBOUR: 'it returns false'. Refute it at one input. -/
def asmBlanksWrong : ChangeSpec := { name := "asmBlanks", fn := fun _ => fun
  | [d1, d2] => { results := [.lit (.bool false)], args := [d1, d2] }
  | _ => none }
def AsmBlanksWrongFalsely : Prop := asmBlanksRow.holds Try.pinned (OpenSpec.ofChange asmBlanksWrong)

/- THE SECOND FORM. 'bulk': how many values and letters a reading holds, each counted each time it is reached (what is shared counts as often as it is met; a slice's spare places count too). A statement '..UptoSaid' is the law's where the arguments, and the package variables that the reading takes, are together of bulk at most 1048576: NARROWER than '..Said'. Prove '..Said' where nothing that the law and all that it calls make is longer than what came in: it says more and counts as full. Else prove '..UptoSaid'. A law counts once. -/
mutual
def uptoBulk {H : Type} : DataW H → Nat
  | .lit (.string bytes) => bytes.length + 1
  | .lit _ => 1
  | .nil => 1
  | .ptr d => uptoBulk d + 1
  | .slice elems spare => uptoBulkAll elems + uptoBulkAll spare + 1
  | .agg parts => uptoBulkAll parts + 1
  | .iface _ d => uptoBulk d + 1
  | .map entries => uptoBulkEntries entries + 1
  | .held _ => 1
def uptoBulkAll {H : Type} : List (DataW H) → Nat
  | [] => 0
  | d :: r => uptoBulk d + uptoBulkAll r
def uptoBulkEntries {H : Type} : List (Lit × DataW H) → Nat
  | [] => 0
  | x :: r => uptoBulkEntry x + uptoBulkEntries r
def uptoBulkEntry {H : Type} : Lit × DataW H → Nat
  | (.string bytes, d) => bytes.length + uptoBulk d + 1
  | (_, d) => uptoBulk d + 1
 end
def uptoSmall : (H : Type) → List (DataW H) → Bool := fun _ ds => decide (uptoBulkAll ds ≤ 1048576)
def OpenSpec.upto (s : _root_.Go.ChangeSpec) : _root_.Go.OpenSpec := { _root_.Go.OpenSpec.ofChange s with cond := some uptoSmall }

/-- 'granulelaw04.AsmPrints', WHERE WHAT IT READS IS OF BULK AT MOST 1048576: true; the input reads as it did. -/
def asmPrintsUptoRow : OpenClaim := { program := "ytlhkjjfdmglabaa", sum := "4d578d2b31b025a1bc494f898e48f6a02a93419f7e62095126fcfef4291dab69", func := "granule/granulelaw04.AsmPrints", spec := "asmPrints", inPlace := ["internal/bytealg.IndexByteString", "internal/bytealg.IndexString"], unfollowed := true, recurses := true, named := ["internal/bytealg.MaxLen"], apart := false, narrowed := true }
def AsmPrintsUptoSaid : Prop := asmPrintsUptoRow.holds Try.pinned (OpenSpec.upto asmPrintsSpec)

/-- 'granulelaw04.AsmBack', WHERE WHAT IT READS IS OF BULK AT MOST 1048576: true; the input reads as it did. -/
def asmBackUptoRow : OpenClaim := { program := "ytlhkjjfdmglabaa", sum := "4d578d2b31b025a1bc494f898e48f6a02a93419f7e62095126fcfef4291dab69", func := "granule/granulelaw04.AsmBack", spec := "asmBack", inPlace := ["internal/bytealg.IndexByteString", "internal/bytealg.IndexString"], unfollowed := true, recurses := true, named := ["internal/bytealg.MaxLen"], apart := false, narrowed := true }
def AsmBackUptoSaid : Prop := asmBackUptoRow.holds Try.pinned (OpenSpec.upto asmBackSpec)

/-- 'granulelaw04.AsmWords', WHERE WHAT IT READS IS OF BULK AT MOST 1048576: true; the input reads as it did. -/
def asmWordsUptoRow : OpenClaim := { program := "ytlhkjjfdmglabaa", sum := "4d578d2b31b025a1bc494f898e48f6a02a93419f7e62095126fcfef4291dab69", func := "granule/granulelaw04.AsmWords", spec := "asmWords", inPlace := ["internal/bytealg.IndexByteString", "internal/bytealg.IndexString"], unfollowed := true, recurses := true, named := ["internal/bytealg.MaxLen"], apart := false, narrowed := true }
def AsmWordsUptoSaid : Prop := asmWordsUptoRow.holds Try.pinned (OpenSpec.upto asmWordsSpec)

/-- 'granulelaw04.AsmRegs', WHERE WHAT IT READS IS OF BULK AT MOST 1048576: true; the input reads as it did. -/
def asmRegsUptoRow : OpenClaim := { program := "ytlhkjjfdmglabaa", sum := "4d578d2b31b025a1bc494f898e48f6a02a93419f7e62095126fcfef4291dab69", func := "granule/granulelaw04.AsmRegs", spec := "asmRegs", inPlace := ["internal/bytealg.IndexByteString", "internal/bytealg.IndexString"], unfollowed := true, recurses := true, named := ["internal/bytealg.MaxLen"], apart := false, narrowed := true }
def AsmRegsUptoSaid : Prop := asmRegsUptoRow.holds Try.pinned (OpenSpec.upto asmRegsSpec)

/-- 'granulelaw04.AsmBlanks', WHERE WHAT IT READS IS OF BULK AT MOST 1048576: true; the input reads as it did. -/
def asmBlanksUptoRow : OpenClaim := { program := "ytlhkjjfdmglabaa", sum := "4d578d2b31b025a1bc494f898e48f6a02a93419f7e62095126fcfef4291dab69", func := "granule/granulelaw04.AsmBlanks", spec := "asmBlanks", inPlace := ["internal/bytealg.IndexByteString", "internal/bytealg.IndexString"], unfollowed := true, recurses := true, named := ["internal/bytealg.MaxLen"], apart := false, narrowed := true }
def AsmBlanksUptoSaid : Prop := asmBlanksUptoRow.holds Try.pinned (OpenSpec.upto asmBlanksSpec)

end Rows
end Go.Proofs.Ytlhkjjfdmglabaa
