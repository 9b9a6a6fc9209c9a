/-
  No cell of these rows narrows 'for every input' (looked for: loops, veiled, ifaces, maps, wideKeys, modest, calm, conditions, laid).
  DERIVED. THE GIVEN ROWS OF THIS SEAT. 8 by the template 'for every input the law returns true; each argument reads behind the call as it read before'; 0 by the template 'total and deterministic' (their statements: YtdkjokffeeiilaaTotals.lean).
  GIVEN WITH THE SEED: the statements are not yours to turn. If you find one false, say at which input.
  Laid BY PROGRAM, IN A SANDBOX (cutbox-rows.mjs): the forced cells as the released guide's own fill.sh prints them over the translation 86540f6b33b21d56… (all of the seat's roots in one cut). By AI agents, Wed Nov 11 2026. No macro, syntax, notation, axiom, sorry.
-/
import Derived.Test.YtdkjokffeeiilaaChecked
import GoSem.Claim
import GoSem.ClaimJoined
import GoSem.ClaimMapViews
import Derived.JoinedTies
import Derived.KernelRfl
namespace Go.Proofs.Ytdkjokffeeiilaa
/- THE CELL 'sum', in the pinned program and in every row, IS THE sha256 OF THE DUMP (.gsa) THAT YtdkjokffeeiilaaProg.lean LOADS. Nothing in Lean hashes anything: it is a label: what it is worth is what the hold of that sum in a sandbox is worth. -/
noncomputable def Try.pinned : Pinned := { name := "ytdkjokffeeiilaa", sum := "86540f6b33b21d562482d4cb8a1d6162b03548c41d07a740526d8ddb39f6cdfe", checked := Try.checked }
namespace Rows
def none {H : Type} : Left H := { results := [], args := [] }

/-- 'granulelaw02.FieldParses': WHATEVER THE INPUT: true; the input reads as it did. -/
def fieldParsesSpec : ChangeSpec := { name := "fieldParses", fn := fun _ => fun
  | [d] => { results := [.lit (.bool true)], args := [d] }
  | _ => none }
def fieldParsesRow : OpenClaim := { program := "ytdkjokffeeiilaa", sum := "86540f6b33b21d562482d4cb8a1d6162b03548c41d07a740526d8ddb39f6cdfe", func := "granule/granulelaw02.FieldParses", spec := "fieldParses", apart := false }
def FieldParsesSaid : Prop := fieldParsesRow.holds Try.pinned (OpenSpec.ofChange fieldParsesSpec)

/-- ITS FALSE NEIGHBOUR: 'it returns false'. Refute it at one input. -/
def fieldParsesWrong : ChangeSpec := { name := "fieldParses", fn := fun _ => fun
  | [d] => { results := [.lit (.bool false)], args := [d] }
  | _ => none }
def FieldParsesWrongFalsely : Prop := fieldParsesRow.holds Try.pinned (OpenSpec.ofChange fieldParsesWrong)

/-- 'granulelaw02.FieldGets': WHATEVER THE INPUT: true; the input reads as it did. -/
def fieldGetsSpec : ChangeSpec := { name := "fieldGets", fn := fun _ => fun
  | [d1, d2, d3] => { results := [.lit (.bool true)], args := [d1, d2, d3] }
  | _ => none }
def fieldGetsRow : OpenClaim := { program := "ytdkjokffeeiilaa", sum := "86540f6b33b21d562482d4cb8a1d6162b03548c41d07a740526d8ddb39f6cdfe", func := "granule/granulelaw02.FieldGets", spec := "fieldGets", apart := false }
def FieldGetsSaid : Prop := fieldGetsRow.holds Try.pinned (OpenSpec.ofChange fieldGetsSpec)

/-- ITS FALSE NEIGHBOUR: 'it returns false'. Refute it at one input. -/
def fieldGetsWrong : ChangeSpec := { name := "fieldGets", fn := fun _ => fun
  | [d1, d2, d3] => { results := [.lit (.bool false)], args := [d1, d2, d3] }
  | _ => none }
def FieldGetsWrongFalsely : Prop := fieldGetsRow.holds Try.pinned (OpenSpec.ofChange fieldGetsWrong)

/-- 'granulelaw02.FieldSigns': WHATEVER THE INPUT: true; the input reads as it did. -/
def fieldSignsSpec : ChangeSpec := { name := "fieldSigns", fn := fun _ => fun
  | [d1, d2, d3] => { results := [.lit (.bool true)], args := [d1, d2, d3] }
  | _ => none }
def fieldSignsRow : OpenClaim := { program := "ytdkjokffeeiilaa", sum := "86540f6b33b21d562482d4cb8a1d6162b03548c41d07a740526d8ddb39f6cdfe", func := "granule/granulelaw02.FieldSigns", spec := "fieldSigns", apart := false }
def FieldSignsSaid : Prop := fieldSignsRow.holds Try.pinned (OpenSpec.ofChange fieldSignsSpec)

/-- ITS FALSE NEIGHBOUR: 'it returns false'. Refute it at one input. -/
def fieldSignsWrong : ChangeSpec := { name := "fieldSigns", fn := fun _ => fun
  | [d1, d2, d3] => { results := [.lit (.bool false)], args := [d1, d2, d3] }
  | _ => none }
def FieldSignsWrongFalsely : Prop := fieldSignsRow.holds Try.pinned (OpenSpec.ofChange fieldSignsWrong)

/-- 'granulelaw02.FieldPuts': WHATEVER THE INPUT: true; the input reads as it did. -/
def fieldPutsSpec : ChangeSpec := { name := "fieldPuts", fn := fun _ => fun
  | [d1, d2, d3] => { results := [.lit (.bool true)], args := [d1, d2, d3] }
  | _ => none }
def fieldPutsRow : OpenClaim := { program := "ytdkjokffeeiilaa", sum := "86540f6b33b21d562482d4cb8a1d6162b03548c41d07a740526d8ddb39f6cdfe", func := "granule/granulelaw02.FieldPuts", spec := "fieldPuts", apart := false }
def FieldPutsSaid : Prop := fieldPutsRow.holds Try.pinned (OpenSpec.ofChange fieldPutsSpec)

/-- ITS FALSE NEIGHBOUR: 'it returns false'. Refute it at one input. -/
def fieldPutsWrong : ChangeSpec := { name := "fieldPuts", fn := fun _ => fun
  | [d1, d2, d3] => { results := [.lit (.bool false)], args := [d1, d2, d3] }
  | _ => none }
def FieldPutsWrongFalsely : Prop := fieldPutsRow.holds Try.pinned (OpenSpec.ofChange fieldPutsWrong)

/-- 'granulelaw02.FieldBeside': WHATEVER THE INPUT: true; the input reads as it did. -/
def fieldBesideSpec : ChangeSpec := { name := "fieldBeside", fn := fun _ => fun
  | [d1, d2, d3] => { results := [.lit (.bool true)], args := [d1, d2, d3] }
  | _ => none }
def fieldBesideRow : OpenClaim := { program := "ytdkjokffeeiilaa", sum := "86540f6b33b21d562482d4cb8a1d6162b03548c41d07a740526d8ddb39f6cdfe", func := "granule/granulelaw02.FieldBeside", spec := "fieldBeside", apart := false }
def FieldBesideSaid : Prop := fieldBesideRow.holds Try.pinned (OpenSpec.ofChange fieldBesideSpec)

/-- ITS FALSE NEIGHBOUR: 'it returns false'. Refute it at one input. -/
def fieldBesideWrong : ChangeSpec := { name := "fieldBeside", fn := fun _ => fun
  | [d1, d2, d3] => { results := [.lit (.bool false)], args := [d1, d2, d3] }
  | _ => none }
def FieldBesideWrongFalsely : Prop := fieldBesideRow.holds Try.pinned (OpenSpec.ofChange fieldBesideWrong)

/-- 'granulelaw02.FieldAligns': WHATEVER THE INPUT: true; the input reads as it did. -/
def fieldAlignsSpec : ChangeSpec := { name := "fieldAligns", fn := fun _ => fun
  | [d1, d2] => { results := [.lit (.bool true)], args := [d1, d2] }
  | _ => none }
def fieldAlignsRow : OpenClaim := { program := "ytdkjokffeeiilaa", sum := "86540f6b33b21d562482d4cb8a1d6162b03548c41d07a740526d8ddb39f6cdfe", func := "granule/granulelaw02.FieldAligns", spec := "fieldAligns", apart := false }
def FieldAlignsSaid : Prop := fieldAlignsRow.holds Try.pinned (OpenSpec.ofChange fieldAlignsSpec)

/-- ITS FALSE NEIGHBOUR: 'it returns false'. Refute it at one input. -/
def fieldAlignsWrong : ChangeSpec := { name := "fieldAligns", fn := fun _ => fun
  | [d1, d2] => { results := [.lit (.bool false)], args := [d1, d2] }
  | _ => none }
def FieldAlignsWrongFalsely : Prop := fieldAlignsRow.holds Try.pinned (OpenSpec.ofChange fieldAlignsWrong)

/-- 'granulelaw02.FieldSlots': WHATEVER THE INPUT: true; the input reads as it did. -/
def fieldSlotsSpec : ChangeSpec := { name := "fieldSlots", fn := fun _ => fun
  | [d1, d2] => { results := [.lit (.bool true)], args := [d1, d2] }
  | _ => none }
def fieldSlotsRow : OpenClaim := { program := "ytdkjokffeeiilaa", sum := "86540f6b33b21d562482d4cb8a1d6162b03548c41d07a740526d8ddb39f6cdfe", func := "granule/granulelaw02.FieldSlots", spec := "fieldSlots", apart := false }
def FieldSlotsSaid : Prop := fieldSlotsRow.holds Try.pinned (OpenSpec.ofChange fieldSlotsSpec)

/-- ITS FALSE NEIGHBOUR: 'it returns false'. Refute it at one input. -/
def fieldSlotsWrong : ChangeSpec := { name := "fieldSlots", fn := fun _ => fun
  | [d1, d2] => { results := [.lit (.bool false)], args := [d1, d2] }
  | _ => none }
def FieldSlotsWrongFalsely : Prop := fieldSlotsRow.holds Try.pinned (OpenSpec.ofChange fieldSlotsWrong)

/-- 'granulelaw02.FieldTexts': WHATEVER THE INPUT: true; the input reads as it did. -/
def fieldTextsSpec : ChangeSpec := { name := "fieldTexts", fn := fun _ => fun
  | [d1, d2] => { results := [.lit (.bool true)], args := [d1, d2] }
  | _ => none }
def fieldTextsRow : OpenClaim := { program := "ytdkjokffeeiilaa", sum := "86540f6b33b21d562482d4cb8a1d6162b03548c41d07a740526d8ddb39f6cdfe", func := "granule/granulelaw02.FieldTexts", spec := "fieldTexts", recurses := true, apart := false }
def FieldTextsSaid : Prop := fieldTextsRow.holds Try.pinned (OpenSpec.ofChange fieldTextsSpec)

/-- ITS FALSE NEIGHBOUR: 'it returns false'. Refute it at one input. -/
def fieldTextsWrong : ChangeSpec := { name := "fieldTexts", fn := fun _ => fun
  | [d1, d2] => { results := [.lit (.bool false)], args := [d1, d2] }
  | _ => none }
def FieldTextsWrongFalsely : Prop := fieldTextsRow.holds Try.pinned (OpenSpec.ofChange fieldTextsWrong)

/- THE SECOND FORM. 'bulk': how many values and letters a reading holds, each counted each time it is reached (what is shared counts as often as it is met; a slice's spare places count too). A statement '..UptoSaid' is the law's where the arguments, and the package variables that the reading takes, are together of bulk at most 1048576: NARROWER than '..Said'. Prove '..Said' where nothing that the law and all that it calls make is longer than what came in: it says more and counts as full. Else prove '..UptoSaid'. A law counts once. -/
mutual
def uptoBulk {H : Type} : DataW H → Nat
  | .lit (.string bytes) => bytes.length + 1
  | .lit _ => 1
  | .nil => 1
  | .ptr d => uptoBulk d + 1
  | .slice elems spare => uptoBulkAll elems + uptoBulkAll spare + 1
  | .agg parts => uptoBulkAll parts + 1
  | .iface _ d => uptoBulk d + 1
  | .map entries => uptoBulkEntries entries + 1
  | .held _ => 1
def uptoBulkAll {H : Type} : List (DataW H) → Nat
  | [] => 0
  | d :: r => uptoBulk d + uptoBulkAll r
def uptoBulkEntries {H : Type} : List (Lit × DataW H) → Nat
  | [] => 0
  | x :: r => uptoBulkEntry x + uptoBulkEntries r
def uptoBulkEntry {H : Type} : Lit × DataW H → Nat
  | (.string bytes, d) => bytes.length + uptoBulk d + 1
  | (_, d) => uptoBulk d + 1
 end
def uptoSmall : (H : Type) → List (DataW H) → Bool := fun _ ds => decide (uptoBulkAll ds ≤ 1048576)
def OpenSpec.upto (s : _root_.Go.ChangeSpec) : _root_.Go.OpenSpec := { _root_.Go.OpenSpec.ofChange s with cond := some uptoSmall }

/-- 'granulelaw02.FieldParses', WHERE WHAT IT READS IS OF BULK AT MOST 1048576: true; the input reads as it did. -/
def fieldParsesUptoRow : OpenClaim := { program := "ytdkjokffeeiilaa", sum := "86540f6b33b21d562482d4cb8a1d6162b03548c41d07a740526d8ddb39f6cdfe", func := "granule/granulelaw02.FieldParses", spec := "fieldParses", apart := false, narrowed := true }
def FieldParsesUptoSaid : Prop := fieldParsesUptoRow.holds Try.pinned (OpenSpec.upto fieldParsesSpec)

/-- 'granulelaw02.FieldGets', WHERE WHAT IT READS IS OF BULK AT MOST 1048576: true; the input reads as it did. -/
def fieldGetsUptoRow : OpenClaim := { program := "ytdkjokffeeiilaa", sum := "86540f6b33b21d562482d4cb8a1d6162b03548c41d07a740526d8ddb39f6cdfe", func := "granule/granulelaw02.FieldGets", spec := "fieldGets", apart := false, narrowed := true }
def FieldGetsUptoSaid : Prop := fieldGetsUptoRow.holds Try.pinned (OpenSpec.upto fieldGetsSpec)

/-- 'granulelaw02.FieldSigns', WHERE WHAT IT READS IS OF BULK AT MOST 1048576: true; the input reads as it did. -/
def fieldSignsUptoRow : OpenClaim := { program := "ytdkjokffeeiilaa", sum := "86540f6b33b21d562482d4cb8a1d6162b03548c41d07a740526d8ddb39f6cdfe", func := "granule/granulelaw02.FieldSigns", spec := "fieldSigns", apart := false, narrowed := true }
def FieldSignsUptoSaid : Prop := fieldSignsUptoRow.holds Try.pinned (OpenSpec.upto fieldSignsSpec)

/-- 'granulelaw02.FieldPuts', WHERE WHAT IT READS IS OF BULK AT MOST 1048576: true; the input reads as it did. -/
def fieldPutsUptoRow : OpenClaim := { program := "ytdkjokffeeiilaa", sum := "86540f6b33b21d562482d4cb8a1d6162b03548c41d07a740526d8ddb39f6cdfe", func := "granule/granulelaw02.FieldPuts", spec := "fieldPuts", apart := false, narrowed := true }
def FieldPutsUptoSaid : Prop := fieldPutsUptoRow.holds Try.pinned (OpenSpec.upto fieldPutsSpec)

/-- 'granulelaw02.FieldBeside', WHERE WHAT IT READS IS OF BULK AT MOST 1048576: true; the input reads as it did. -/
def fieldBesideUptoRow : OpenClaim := { program := "ytdkjokffeeiilaa", sum := "86540f6b33b21d562482d4cb8a1d6162b03548c41d07a740526d8ddb39f6cdfe", func := "granule/granulelaw02.FieldBeside", spec := "fieldBeside", apart := false, narrowed := true }
def FieldBesideUptoSaid : Prop := fieldBesideUptoRow.holds Try.pinned (OpenSpec.upto fieldBesideSpec)

/-- 'granulelaw02.FieldAligns', WHERE WHAT IT READS IS OF BULK AT MOST 1048576: true; the input reads as it did. -/
def fieldAlignsUptoRow : OpenClaim := { program := "ytdkjokffeeiilaa", sum := "86540f6b33b21d562482d4cb8a1d6162b03548c41d07a740526d8ddb39f6cdfe", func := "granule/granulelaw02.FieldAligns", spec := "fieldAligns", apart := false, narrowed := true }
def FieldAlignsUptoSaid : Prop := fieldAlignsUptoRow.holds Try.pinned (OpenSpec.upto fieldAlignsSpec)

/-- 'granulelaw02.FieldSlots', WHERE WHAT IT READS IS OF BULK AT MOST 1048576: true; the input reads as it did. -/
def fieldSlotsUptoRow : OpenClaim := { program := "ytdkjokffeeiilaa", sum := "86540f6b33b21d562482d4cb8a1d6162b03548c41d07a740526d8ddb39f6cdfe", func := "granule/granulelaw02.FieldSlots", spec := "fieldSlots", apart := false, narrowed := true }
def FieldSlotsUptoSaid : Prop := fieldSlotsUptoRow.holds Try.pinned (OpenSpec.upto fieldSlotsSpec)

/-- 'granulelaw02.FieldTexts', WHERE WHAT IT READS IS OF BULK AT MOST 1048576: true; the input reads as it did. -/
def fieldTextsUptoRow : OpenClaim := { program := "ytdkjokffeeiilaa", sum := "86540f6b33b21d562482d4cb8a1d6162b03548c41d07a740526d8ddb39f6cdfe", func := "granule/granulelaw02.FieldTexts", spec := "fieldTexts", recurses := true, apart := false, narrowed := true }
def FieldTextsUptoSaid : Prop := fieldTextsUptoRow.holds Try.pinned (OpenSpec.upto fieldTextsSpec)

end Rows
end Go.Proofs.Ytdkjokffeeiilaa
