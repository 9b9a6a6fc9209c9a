/- Reading an instruction's text: a model of it. -/
import Derived.Test.YtlhkjjfdmglabaaAsmNames
import Derived.Test.YtlhkjjfdmglabaaAsmWordsP
import Derived.Test.YtlhkjjfdmglabaaParsePlain
namespace Go.Proofs.Ytlhkjjfdmglabaa
open Go.RowKit
set_option linter.unusedVariables false
set_option linter.unusedSimpArgs false

/-- What is left of a text's parts; is it bad? -/
abbrev AS := List (List UInt8) × Bool
structure Ins where
  op : Int
  d : Int
  n : Int
  m : Int
  imm : Int
  kind : Int
def Ins.none : Ins := ⟨0, 0, 0, 0, 0, 0⟩
def nextA (s : AS) : List UInt8 × AS := match s.1 with | [] => ([], ([], true)) | w :: ws => (w, (ws, s.2))
def badA (s : AS) (b : Bool) : AS := (s.1, s.2 || b)
def mustA (s : AS) (t : List UInt8) : AS := badA (nextA s).2 (decide (¬ (nextA s).1 = t))
def mayA (s : AS) (t : List UInt8) : Bool × AS := match s.1 with | [] => (false, s) | w :: ws => if w = t then (true, (ws, s.2)) else (false, s)
def numberA (s : AS) (x : List UInt8) : Int × AS := if (parseL x).2 = 0 ∧ (parseL x).1 ≤ 1099511627776 then (((parseL x).1 : Nat), s) else (0, badA s true)
def regA (s : AS) : Int × AS := match regN (ba (nextA s).1) with | some j => ((j : Nat), (nextA s).2) | none => (0, badA (nextA s).2 true)
def cutA (p x : List UInt8) : List UInt8 × Bool := if p.isPrefixOf x then (x.drop p.length, true) else (x, false)
def countA (s : AS) : Int × AS := numberA (badA (nextA s).2 (!(cutA [35] (nextA s).1).2)) (cutA [35] (nextA s).1).1
def branchA (s : AS) : Int × AS :=
  if (cutA [46, 43] (nextA s).1).2 then numberA (nextA s).2 (cutA [46, 43] (nextA s).1).1
  else
    let y := numberA (badA (nextA s).2 (!(cutA [46, 45] (nextA s).1).2)) (cutA [46, 45] (nextA s).1).1
    (-y.1, y.2)
def placeA (s : AS) : (Int × Int) × AS :=
  let x := regA (mustA s [91])
  let m := mayA x.2 [44]
  if m.1 then ((x.1, (countA m.2).1), mustA (countA m.2).2 [93]) else ((x.1, 0), mustA m.2 [93])
def kindA (s : AS) (most : Nat) (name : Nat → List UInt8) : Int × AS :=
  if (nextA s).1 = [] then (0, badA (nextA s).2 true)
  else match (List.range most).find? (fun k => decide (name k = (nextA s).1)) with | some k => ((k : Nat), (nextA s).2) | none => (0, badA (nextA s).2 true)
def memoryA (s : AS) (op : Int) : Ins × AS :=
  let x := regA s
  let y := placeA (mustA x.2 [44])
  (⟨op, x.1, y.1.1, 0, y.1.2, 0⟩, y.2)
def moveA (s : AS) : Ins × AS :=
  let x := regA s
  let y := countA (mustA x.2 [44])
  let m := mayA y.2 [44]
  if m.1 then
    let z := countA (mustA m.2 [76, 83, 76])
    (⟨6, x.1, 0, 0, y.1, z.1 / 16⟩, badA z.2 (decide (¬ z.1 % 16 = 0)))
  else (⟨6, x.1, 0, 0, y.1, 0⟩, m.2)
def hashA (s : AS) : Bool := match s.1 with | [] => false | w :: _ => [35].isPrefixOf w
def addA (s : AS) : Ins × AS :=
  let x := regA s
  let y := regA (mustA x.2 [44])
  let s2 := mustA y.2 [44]
  if hashA s2 then (⟨7, x.1, y.1, 0, (countA s2).1, 0⟩, (countA s2).2) else (⟨8, x.1, y.1, (regA s2).1, 0, 0⟩, (regA s2).2)
def threeA (s : AS) (op : Int) : Ins × AS :=
  let x := regA s
  let y := regA (mustA x.2 [44])
  let z := regA (mustA y.2 [44])
  (⟨op, x.1, y.1, z.1, 0, 0⟩, z.2)
def testA (s : AS) (op : Int) : Ins × AS :=
  let x := regA s
  let y := branchA (mustA x.2 [44])
  (⟨op, x.1, 0, 0, y.1, 0⟩, y.2)
def flushN (k : Nat) : List UInt8 := flushL k
def barN (k : Nat) : List UInt8 := barL k
def sysN (k : Nat) : List UInt8 := sysL k
def flushA (s : AS) : Ins × AS :=
  let x := kindA s 8 flushN
  if x.1 % 4 = 0 then (⟨21, 31, 0, 0, 0, x.1⟩, x.2)
  else
    let y := regA (mustA x.2 [44])
    (⟨21, y.1, 0, 0, 0, x.1⟩, y.2)
def cmpA (s : AS) : Ins × AS :=
  let x := regA s
  let y := regA (mustA x.2 [44])
  (⟨13, 31, x.1, y.1, 0, 0⟩, y.2)
def mrsA (s : AS) : Ins × AS :=
  let x := regA s
  let y := kindA (mustA x.2 [44]) 3 sysN
  (⟨23, x.1, 0, 0, 0, y.1⟩, y.2)
/-- An instruction by its first word, out of what follows. -/
def bodyA (x : List UInt8) (s : AS) : Ins × AS :=
  if x = [78, 79, 80] then (⟨1, 0, 0, 0, 0, 0⟩, s)
  else if x = [73, 83, 66] then (⟨20, 0, 0, 0, 0, 0⟩, s)
  else if x = [69, 82, 69, 84] then (⟨22, 0, 0, 0, 0, 0⟩, s)
  else if x = [76, 68, 82] then memoryA s 2
  else if x = [83, 84, 82] then memoryA s 3
  else if x = [76, 68, 65, 82] then memoryA s 4
  else if x = [83, 84, 76, 82] then memoryA s 5
  else if x = [77, 79, 86] then moveA s
  else if x = [77, 79, 86, 90] then moveA s
  else if x = [65, 68, 68] then addA s
  else if x = [83, 85, 66] then threeA s 9
  else if x = [65, 78, 68] then threeA s 10
  else if x = [79, 82, 82] then threeA s 11
  else if x = [69, 79, 82] then threeA s 12
  else if x = [83, 85, 66, 83] then threeA s 13
  else if x = [67, 77, 80] then cmpA s
  else if x = [66] then (⟨14, 0, 0, 0, (branchA s).1, 0⟩, (branchA s).2)
  else if x = [66, 46, 69, 81] then (⟨17, 0, 0, 0, (branchA s).1, 0⟩, (branchA s).2)
  else if x = [66, 46, 78, 69] then (⟨17, 0, 0, 0, (branchA s).1, 1⟩, (branchA s).2)
  else if x = [67, 66, 90] then testA s 15
  else if x = [67, 66, 78, 90] then testA s 16
  else if x = [68, 77, 66] then (⟨18, 0, 0, 0, 0, (kindA s 16 barN).1⟩, (kindA s 16 barN).2)
  else if x = [68, 83, 66] then (⟨19, 0, 0, 0, 0, (kindA s 16 barN).1⟩, (kindA s 16 barN).2)
  else if x = [84, 76, 66, 73] then flushA s
  else if x = [77, 82, 83] then mrsA s
  else (Ins.none, badA s true)
def instrA (s : AS) : Ins × AS := bodyA (nextA s).1 (nextA s).2
/-- A text's instruction; 40: it is none. -/
def parseA (l : List UInt8) : Ins × Int :=
  let r := instrA (wordsL l, false)
  if r.2.2 = false ∧ r.2.1 = [] ∧ rightP r.1.op r.1.d r.1.n r.1.m r.1.imm r.1.kind then (r.1, 0) else (Ins.none, 40)
/-- The page's example. -/
theorem parseA_one : parseA [32, 77, 79, 86, 32, 88, 48, 32, 44, 32, 35, 48, 120, 49, 48, 32] = (⟨6, 0, 0, 0, 16, 0⟩, 0) := by kernel_rfl
theorem parseA_two : parseA [108, 100, 114, 32, 88, 49] = (Ins.none, 40) := by kernel_rfl
end Go.Proofs.Ytlhkjjfdmglabaa
