/- isa.Right, exactly: the walk. -/
import Derived.Test.YtmnojnopejhebaaGreatMgaa
import Derived.Test.YtmnojnopejhebaaGreatMgab
import Derived.Test.YtmnojnopejhebaaGreatMgac
import Derived.Test.YtmnojnopejhebaaGreatMgad
import Derived.Test.YtmnojnopejhebaaGreatMgag
import Derived.Laws.Rows
namespace Go.Proofs.YtmnojnopejhebaaGreat
set_option linter.unusedVariables false
set_option linter.unusedSimpArgs false
set_option maxRecDepth 100000
set_option maxHeartbeats 25600000
section
open Go.RowKit
theorem el_row : El Tryz.prog 112 114 (.agg #[.string ⟨#[]⟩, .int .i64 0]) 2 24 := ⟨Tryz.underlying112, by kernel_rfl⟩
def rowCells (s : ByteArray) (l : List (Nat × Nat)) : List Value := l.flatMap fun r => [.string (s.extract r.1 r.2), .int .i64 (r.1 : Nat)]
theorem rowCells_snoc (s : ByteArray) (l : List (Nat × Nat)) (a e : Nat) : rowCells s (l ++ [(a, e)]) = rowCells s l ++ [.string (s.extract a e), .int .i64 (a : Nat)] := by simp [rowCells]
theorem extract_empty {s : ByteArray} {a e : Nat} (h : ¬ a < e) : s.extract a e = ByteArray.empty := by
 apply ByteArray.ext; simp; omega
def RowsInv (s : ByteArray) (w : World) (k : Nat) (f : Nat) (v : Value) (acc : List (Nat × Nat)) (wr : World) : Prop :=
 f ≤ k ∧ acc.length ≤ f ∧ scan (nlB s) s.size k = scan (nlB s) s.size f ∧ rowsF s f acc = rowsF s 0 [] ∧ wr.ownsRow w.heap.size 114 2 v acc.length (rowCells s acc) ∧ Below w.heap.size w wr
theorem rowsInv_below {s : ByteArray} {w : World} {k f : Nat} {v : Value} {acc : List (Nat × Nat)} {wr w2 : World} (h : RowsInv s w k f v acc wr) (hb : Below wr.heap.size wr w2) : RowsInv s w k f v acc w2 := by
 obtain ⟨h1, h2, h3, h4, h5, h6⟩ := h
 exact ⟨h1, h2, h3, h4, own_below h5 hb, bt_ h6 hb⟩
theorem rowsInv_end {s : ByteArray} {w : World} {k f : Nat} {v : Value} {acc : List (Nat × Nat)} {wr : World} (hk : s.size < k) (h : RowsInv s w k f v acc wr) : wr.ownsRow w.heap.size 114 2 v (rowsF s 0 []).length (rowCells s (rowsF s 0 [])) ∧ Below w.heap.size w wr := by
 obtain ⟨h1, h2, h3, h4, h5, h6⟩ := h
 have hf : ¬ f ≤ s.size := by
  intro hf
  have := (scan_ge (nlB s) s.size _ f rfl).2 hf
  rw [← h3, scan_stop (by omega)] at this
  omega
 rw [rowsF_end hf] at h4
 rw [← h4]; exact ⟨h5, h6⟩
theorem rowsInv_skip {s : ByteArray} {w : World} {k f : Nat} {v : Value} {acc : List (Nat × Nat)} {wr : World} (h : RowsInv s w k f v acc wr) (hs : scan (nlB s) s.size k = k) (hab : ¬ headF s f k < tailF s f k) : RowsInv s w (k + 1) (k + 1) v acc wr := by
 obtain ⟨h1, h2, h3, h4, h5, h6⟩ := h
 refine ⟨Nat.le_refl _, by omega, rfl, ?_, h5, h6⟩
 by_cases hf : f ≤ s.size
 ·rw [← h4, rowsF_step (f := f) hf, ← h3, hs, if_neg hab]
 ·rw [← h4, rowsF_end hf, rowsF_end (by omega)]
theorem rowsInv_add {s : ByteArray} {w : World} {k f : Nat} {v v' : Value} {acc : List (Nat × Nat)} {wr w' : World} (h : RowsInv s w k f v acc wr) (hs : scan (nlB s) s.size k = k) (hab : headF s f k < tailF s f k)
  (ho : w'.ownsRow w.heap.size 114 2 v' (acc.length + 1) (rowCells s acc ++ [.string (s.extract (headF s f k) (tailF s f k)), .int .i64 (headF s f k : Nat)])) (hb : Below w.heap.size wr w') : RowsInv s w (k + 1) (k + 1) v' (acc ++ [(headF s f k, tailF s f k)]) w' := by
 obtain ⟨h1, h2, h3, h4, h5, h6⟩ := h
 have hfs : f ≤ s.size ∨ s.size < f := by omega
 refine ⟨Nat.le_refl _, by simp; omega, rfl, ?_, by rw [rowCells_snoc, List.length_append]; exact ho, h6.trans hb⟩
 rcases hfs with hf | hf
 ·rw [← h4, rowsF_step (f := f) hf, ← h3, hs, if_pos hab]
 ·exfalso
  rw [scan_stop (i := f) (by omega), hs] at h3
  subst h3
  have := tailF_bd s k k (Nat.le_refl _)
  have := headF_bd s k k (Nat.le_refl _)
  omega
theorem empty_isEmpty : ByteArray.empty.toList.isEmpty = true := by rw [toList_ba]; rfl
theorem extract_some {k : Nat} {s : ByteArray} {a b : Nat} (h : a < b) (h1 : b ≤ k) (h2 : k ≤ s.size) : (s.extract a b).toList.isEmpty = false := by
 rw [toList_ba]
 have : 0 < (s.extract a b).data.toList.length := by simp; omega
 cases hl : (s.extract a b).data.toList with
 | nil => rw [hl] at this; simp at this
 | cons x l => rfl
theorem rowsInv_on {s : ByteArray} {w : World} {k f : Nat} {v : Value} {acc : List (Nat × Nat)} {wr : World} (hlt : k < s.size) (h10 : ((s[k].toNat : Int) == 10) = false) (h : RowsInv s w k f v acc wr) : RowsInv s w (k + 1) f v acc wr := by
 obtain ⟨h1, h2, h3, h4⟩ := h
 exact ⟨by omega, h2, by rw [← h3]; exact (scan_miss hlt (by unfold nlB; rw [bt_eq hlt]; exact h10)).symm, h4⟩
theorem rows_any (s : ByteArray) (w : World) (hs : s.size ≤ 140737488351232) (hs2 : s.size * 24 ≤ 140737488351232) :
  Calls Tryz.prog 56 #[.string s] w fun e w' => ∃ v, e = .returned v ∧ w'.ownsRow w.heap.size 114 2 v (rowsF s 0 []).length (rowCells s (rowsF s 0 [])) ∧ Below w.heap.size w w' := by
 have H0 := h_ (show RowsInv s w 0 0 (.slice none 0 0) [] w from ⟨Nat.le_refl _, Nat.le_refl _, rfl, rfl, World.ownsRow_nil _ _ _ _, Below.refl _ _⟩)
 go_enter Tryz.func56, Tryz.ntmps56
 go_wp2_with fail
 go_loopw [3, 4, 5] (fun v f i wr => ∃ (k f' : Nat) (acc : List (Nat × Nat)), k ≤ s.size + 1 ∧ i = .int .i64 k ∧ f = .int .i64 f' ∧ RowsInv s w k f' v acc wr) (fun _ _ i _ => s.size + 1 - (intOf i).toNat)
 case atStart => exact ⟨0, 0, [], by omega, rfl, rfl, H0.out⟩
 case round =>
  obtain ⟨k, f', acc, hk, rfl, rfl, hI⟩ := hrel
  have HI := h_ hI
  have HFK := h_ hI.1
  clear hI
  by_cases hle : k ≤ s.size
  ·by_cases hlt : k < s.size
   ·cases h10 : ((s[k].toNat : Int) == 10)
    ·have n10 : ((s[k].toNat : Int) != 10) = true := by simp only [bne, h10, Bool.not_false]
     go_wp2_with fail
     go_roundw
     case rel => exact ⟨k + 1, f', acc, by omega, by go_num, rfl, rowsInv_on hlt h10 HI.out⟩
     case measure => simp [intOf] <;> omega
    ·have n10 : ((s[k].toNat : Int) != 10) = false := by simp only [bne, h10, Bool.not_true]
     have HST := h_ (show scan (nlB s) s.size k = k from scan_hit hlt (by unfold nlB; rw [bt_eq hlt]; exact h10))
     go_wp2_with fail
     refine (trim_any s f' k _ hs HFK.out hle).mono ?_
     rintro e w2 ⟨rfl, hb2⟩
     have HI2 := h_ (rowsInv_below HI.out hb2)
     clear hb2 HI
     by_cases hab : headF s f' k < tailF s f' k
     ·have HIN := h_ (fun v' w' => rowsInv_add (v' := v') (w' := w') HI2.out HST.out hab)
      have hemp : (s.extract (headF s f' k) (tailF s f' k)).toList.isEmpty = false := extract_some hab (tailF_bd s f' k HFK.out).2 hle
      have hacc : acc.length ≤ s.size := by have := HI2.out; have := HFK.out; have := HI2.out.2.1; omega
      generalize headF s f' k = a at *
      generalize tailF s f' k = b at *
      clear hab
      obtain ⟨p, c, rfl, _⟩ := own_form HI2.out.2.2.2.2.1
      have HO := h_ HI2.out.2.2.2.2.1
      have HZ := h_ HI2.out.2.2.2.2.2.size
      clear HI2
      go_wp2_with (at_builtin; refine app1s rfl _ _ 112 rfl w.heap.size 114 _ 2 24 el_row rfl (by decide) _ _ _ rfl (HO.out.alloc _) [.string (s.extract a b), .int .i64 a] rfl _ rfl (by simp) (by simp [Value.oneCell']) ?c1 ?c2 ?c3 ?_)
      case c1 => unfold maxLen; omega
      case c2 => omega
      case c3 => simp; have := HZ.out; omega
      intro v' w' ho' _ hb'
      have HIF := h_ (HIN.out v' w' ho' (((Below.refl _ _).alloc HZ.out _).trans hb'))
      clear ho' hb' HO HIN HZ
      go_wp2
      go_roundw
      case rel => exact ⟨k + 1, k + 1, _, by omega, by go_num, rfl, HIF.out⟩
      case measure => simp [intOf] <;> omega
     ·have hemp : (s.extract (headF s f' k) (tailF s f' k)).toList.isEmpty = true := by rw [extract_empty hab]; exact empty_isEmpty
      have HIF := h_ (rowsInv_skip HI2.out HST.out hab)
      generalize headF s f' k = a at *
      generalize tailF s f' k = b at *
      clear hab HI2
      go_wp2
      go_roundw
      case rel => exact ⟨k + 1, k + 1, _, by omega, by go_num, rfl, rowsInv_below HIF.out (bl_ (Below.refl _ _) _)⟩
      case measure => simp [intOf] <;> omega
   ·obtain rfl : k = s.size := by omega
    have HST := h_ (show scan (nlB s) s.size s.size = s.size from scan_stop (by omega))
    go_wp2_with fail
    refine (trim_any s f' s.size _ hs HFK.out hle).mono ?_
    rintro e w2 ⟨rfl, hb2⟩
    have HI2 := h_ (rowsInv_below HI.out hb2)
    clear hb2 HI
    by_cases hab : headF s f' s.size < tailF s f' s.size
    ·have HIN := h_ (fun v' w' => rowsInv_add (v' := v') (w' := w') HI2.out HST.out hab)
     have hemp : (s.extract (headF s f' s.size) (tailF s f' s.size)).toList.isEmpty = false := extract_some hab (tailF_bd s f' s.size HFK.out).2 hle
     have hacc : acc.length ≤ s.size := by have := HI2.out; have := HFK.out; have := HI2.out.2.1; omega
     generalize headF s f' s.size = a at *
     generalize tailF s f' s.size = b at *
     clear hab
     obtain ⟨p, c, rfl, _⟩ := own_form HI2.out.2.2.2.2.1
     have HO := h_ HI2.out.2.2.2.2.1
     have HZ := h_ HI2.out.2.2.2.2.2.size
     clear HI2
     go_wp2_with (at_builtin; refine app1s rfl _ _ 112 rfl w.heap.size 114 _ 2 24 el_row rfl (by decide) _ _ _ rfl (HO.out.alloc _) [.string (s.extract a b), .int .i64 a] rfl _ rfl (by simp) (by simp [Value.oneCell']) ?c1 ?c2 ?c3 ?_)
     case c1 => unfold maxLen; omega
     case c2 => omega
     case c3 => simp; have := HZ.out; omega
     intro v' w' ho' _ hb'
     have HIF := h_ (HIN.out v' w' ho' (((Below.refl _ _).alloc HZ.out _).trans hb'))
     clear ho' hb' HO HIN HZ
     go_wp2
     go_roundw
     case rel => exact ⟨s.size + 1, s.size + 1, _, by omega, by go_num, rfl, HIF.out⟩
     case measure => simp [intOf] <;> omega
    ·have hemp : (s.extract (headF s f' s.size) (tailF s f' s.size)).toList.isEmpty = true := by rw [extract_empty hab]; exact empty_isEmpty
     have HIF := h_ (rowsInv_skip HI2.out HST.out hab)
     generalize headF s f' s.size = a at *
     generalize tailF s f' s.size = b at *
     clear hab HI2
     go_wp2
     go_roundw
     case rel => exact ⟨s.size + 1, s.size + 1, _, by omega, by go_num, rfl, rowsInv_below HIF.out (bl_ (Below.refl _ _) _)⟩
     case measure => simp [intOf] <;> omega
  ·have HE := h_ (rowsInv_end (by omega) HI.out)
   obtain ⟨h2, h3⟩ := HE.out
   have HO := h_ h2
   have HB := h_ h3
   clear h2 h3 HE HI
   go_wp2
   go_ret
   exact ⟨_, rfl, HO.out, HB.out⟩
end
section
open Go.RowKit
structure CoreA where
 regs : List Nat
 space : Nat
 table : Nat
 code : List Ins
 hand : List Ins
structure SrcA where
 name : ByteArray
 cells : List (Nat × Nat)
 cores : List CoreA
 fa : Bool
 cond : CT
 tables : List Nat
 pT : List Int
 pC : List Int
 pCo : List Int
 pI : List (List Int)
 pCond : Int
 after : Nat
def src0 : SrcA := ⟨⟨#[]⟩, [], [], false, cF, [], [], [], [], [], 0, 0⟩
def wTest : ByteArray := ⟨#[116, 101, 115, 116]⟩
def wTable : ByteArray := ⟨#[116, 97, 98, 108, 101]⟩
def wCell : ByteArray := ⟨#[99, 101, 108, 108]⟩
def wCore : ByteArray := ⟨#[99, 111, 114, 101]⟩
def wReg : ByteArray := ⟨#[114, 101, 103]⟩
def wHandler : ByteArray := ⟨#[104, 97, 110, 100, 108, 101, 114]⟩
def wExists : ByteArray := ⟨#[101, 120, 105, 115, 116, 115]⟩
def wForall : ByteArray := ⟨#[102, 111, 114, 97, 108, 108]⟩
def keyB (w : ByteArray) : Bool := decide (w = wTest) || decide (w = wTable) || decide (w = wCell) || decide (w = wCore) || decide (w = wReg) || decide (w = wHandler) || decide (w = wExists) || decide (w = wForall)
def faultR (s : RS) (c at_ : Int) : RS := if s.code = 0 then { s with code := c, at_ := at_ } else s
def wIsR (tk : List Tk) (s : RS) (t : ByteArray) : Bool × RS := (isR tk s 1 t, if isR tk s 1 t then nextR tk s else s)
def shiftD (table : Bool) (level : Nat) : Nat := if level = 1 ∧ table = false then 21 else 12
def flagD (b : Bool) (n : Nat) : Nat := if b then 2 ^ n else 0
def encD (table : Bool) (out : Nat) (used ro user own : Bool) (level : Nat) : Nat × Nat :=
 if 4294967296 ≤ out ∨ ¬ out % 2 ^ shiftD table level = 0 then (0, 70)
 else ((out ||| 1 ||| flagD (table || decide (level = 2)) 1) ||| (((flagD used 10 ||| flagD ro 7) ||| flagD user 6) ||| flagD own 11), 0)
structure FlA where
 used : Bool
 ro : Bool
 user : Bool
 own : Bool
def flagsR (tk : List Tk) (s : RS) : FlA × RS :=
 let a := wIsR tk s ⟨#[117, 110, 117, 115, 101, 100]⟩
 let b := wIsR tk a.2 ⟨#[114, 111]⟩
 let c := wIsR tk b.2 ⟨#[117, 115, 101, 114]⟩
 let d := wIsR tk c.2 ⟨#[111, 119, 110]⟩
 (⟨!a.1, b.1, c.1, d.1⟩, d.2)
def encR (tk : List Tk) (s : RS) (x : Nat × Nat) : Nat × RS := (x.1, if x.2 = 0 then s else failR tk s x.2)
def litV (tk : List Tk) (s : RS) : Nat × RS :=
 let a := wIsR tk s ⟨#[116, 111]⟩
 if a.1 then
  let n := numberR tk a.2
  encR tk n.2 (encD true n.1 false false false false 1)
 else
  let b := wIsR tk s ⟨#[98, 108, 111, 99, 107]⟩
  if b.1 then
   let n := numberR tk b.2
   let f := flagsR tk n.2
   encR tk f.2 (encD false n.1 f.1.used f.1.ro f.1.user f.1.own 1)
  else
   let c := wIsR tk s ⟨#[112, 97, 103, 101]⟩
   if c.1 then
    let n := numberR tk c.2
    let f := flagsR tk n.2
    encR tk f.2 (encD false n.1 f.1.used f.1.ro f.1.user f.1.own 2)
   else numberR tk s
def testR (tk : List Tk) (x : SrcA) (s : RS) : SrcA × RS := ({ x with name := (peekR tk s).2.1, after := 1 }, nextR tk (if (peekR tk s).1 = 1 then s else failR tk s 110))
def tableR (tk : List Tk) (x : SrcA) (s : RS) (at_ : Int) : SrcA × RS :=
 if x.after = 1 then ({ x with tables := x.tables ++ [(numberR tk s).1], pT := x.pT ++ [at_] }, (numberR tk s).2) else (x, faultR s 110 at_)
def cellR (tk : List Tk) (x : SrcA) (s : RS) (at_ : Int) : SrcA × RS :=
 if x.after = 1 then
  let a := numberR tk s
  let v := litV tk (mustR tk a.2 3 ⟨#[61]⟩)
  ({ x with cells := x.cells ++ [(a.1, v.1)], pC := x.pC ++ [at_] }, v.2)
 else (x, faultR s 110 at_)
def coreR (tk : List Tk) (x : SrcA) (s : RS) (at_ : Int) : SrcA × RS :=
 let a := smallR tk s 65536
 let s1 := if a.1 = x.cores.length then a.2 else faultR a.2 110 at_
 let b := wIsR tk s1 ⟨#[115, 112, 97, 99, 101]⟩
 let c := if b.1 then smallR tk b.2 65536 else (0, b.2)
 let d := numberR tk (mustR tk c.2 1 wTable)
 ({ x with cores := x.cores ++ [⟨List.replicate 31 0, c.1, d.1, [], []⟩], pCo := x.pCo ++ [at_], pI := x.pI ++ [[]], after := 2 }, d.2)
def lastF (x : SrcA) (f : CoreA → CoreA) : SrcA := match x.cores.getLast? with | none => x | some c => { x with cores := x.cores.dropLast ++ [f c] }
def regOk (tk : List Tk) (x : SrcA) (s : RS) : Bool :=
 decide ((peekR tk s).1 = 1) && (match regN (peekR tk s).2.1 with | some j => decide (¬ j = 31) | none => false) && (match x.cores.getLast? with | some c => c.code.isEmpty | none => false) && decide (x.after = 2)
def regR' (tk : List Tk) (x : SrcA) (s : RS) : SrcA × RS :=
 if regOk tk x s then
  let v := litV tk (mustR tk (nextR tk s) 3 ⟨#[61]⟩)
  (lastF x fun c => { c with regs := c.regs.set ((regN (peekR tk s).2.1).getD 0) v.1 }, v.2)
 else (x, failR tk s 110)
def handR (x : SrcA) (s : RS) (at_ : Int) : SrcA × RS := ({ x with after := 3 }, if x.after = 2 then s else faultR s 110 at_)
def condR (tk : List Tk) (x : SrcA) (s : RS) (fa : Bool) (at_ : Int) : SrcA × RS := ({ x with fa := fa, cond := (parseC tk s).1, pCond := at_, after := 4 }, (parseC tk s).2)
def lastP (l : List (List Int)) (at_ : Int) : List (List Int) := match l.getLast? with | none => l | some q => l.dropLast ++ [q ++ [at_]]
def insR (x : SrcA) (t : ByteArray) (at_ : Int) : SrcA × Int × Int :=
 match x.cores.getLast? with
 | none => (x, 110, at_)
 | some c =>
  let i := parseA t.data.toList
  if i.2 = 0 then ({ lastF x (fun c => if x.after = 2 then { c with code := c.code ++ [i.1] } else { c with hand := c.hand ++ [i.1] }) with pI := lastP x.pI at_ }, 0, 0)
  else (x, i.2, at_)
def switchR (tk : List Tk) (x : SrcA) (s : RS) (w : ByteArray) (at_ : Int) : SrcA × RS :=
 if w = wTest then testR tk x s
 else if w = wTable then tableR tk x s at_
 else if w = wCell then cellR tk x s at_
 else if w = wCore then coreR tk x s at_
 else if w = wReg then regR' tk x s
 else if w = wHandler then handR x s at_
 else condR tk x s (decide (w = wForall)) at_
def rowA (x : SrcA) (t : ByteArray) (at_ : Nat) : SrcA × Int × Int :=
 let w := t.extract 0 (wordE t 0)
 if x.after = 4 ∨ ¬ (decide (x.after = 0) = decide (w = wTest)) then (x, 110, at_)
 else if keyB w = false then insR x t at_
 else if ¬ (toksF t 0 []).2.1 = 0 then (x, (((toksF t 0 []).2.1 : Nat) : Int), toksAt at_ (toksF t 0 []))
 else
  let tk := tkOf t at_ (toksF t 0 []).1
  let y := switchR tk x (nextR tk ⟨0, 0, 0⟩) w at_
  (y.1, (endR tk y.2).code, (endR tk y.2).at_)
def rowsA (s : ByteArray) : SrcA → List (Nat × Nat) → SrcA × Int × Int
 | x, [] => if x.after = 4 then (x, 0, 0) else (src0, 110, s.size)
 | x, r :: l =>
  let y := rowA x (s.extract r.1 r.2) r.1
  if y.2.1 = 0 then rowsA s y.1 l else (src0, y.2)
def litA (s : ByteArray) : SrcA × Int × Int :=
 if (checkZ s).1 = 0 then rowsA s src0 (rowsF s 0 []) else (src0, checkZ s)
end
section
open Go.RowKit
theorem CT.ind {P : CT → Prop} (h : ∀ k c r a v args, (∀ u ∈ args, P u) → P (.mk k c r a v args)) : ∀ t, P t
 | .mk k c r a v args => h k c r a v args (fun u hu => CT.ind h u)
termination_by t => t
decreasing_by
 have := List.sizeOf_lt_of_mem hu
 simp
 omega
def CT.args : CT → List CT
 | .mk _ _ _ _ _ args => args
theorem CT.Row.part {w : World} {S : Nat → Prop} {p : Option Addr} {ts : List CT} (h : CT.Row w S p 0 ts) {j : Nat} (hj : j < ts.length) :
  ∃ (g off : Nat) (k c r a v : Int) (q : Option Addr) (l cp : Nat), p = some ⟨g, off, none⟩ ∧ w.cell? ⟨g, off + j * 6, none⟩ = some (.int .i64 k) ∧ w.cell? ⟨g, off + j * 6 + 1, none⟩ = some (.int .i64 c) ∧ w.cell? ⟨g, off + j * 6 + 2, none⟩ = some (.int .i64 r) ∧ w.cell? ⟨g, off + j * 6 + 3, none⟩ = some (.int .u64 a) ∧ w.cell? ⟨g, off + j * 6 + 4, none⟩ = some (.int .u64 v) ∧ w.cell? ⟨g, off + j * 6 + 5, none⟩ = some (.slice q l cp) ∧ CT.At w S ts[j] [.int .i64 k, .int .i64 c, .int .i64 r, .int .u64 a, .int .u64 v, .slice q l cp] := by
 obtain ⟨g, off, es, h1, h2, h3, h4, h5⟩ := h.at_ hj
 have h5' := h5
 generalize ts[j] = u at h5 h5'
 obtain ⟨k, c, r, a, v, args⟩ := u
 unfold CT.At at h5'
 obtain ⟨q, cap, rfl, _⟩ := h5'
 rw [Nat.zero_add] at h4
 exact ⟨g, off, k, c, r, a, v, q, args.length, cap, h1, h4 0 (by omega), h4 1 (by omega), h4 2 (by omega), h4 3 (by omega), h4 4 (by omega), h4 5 (by omega), h5⟩
theorem CT.At.own {w : World} {S : Nat → Prop} {k c r : Int} {a v : Nat} {args : List CT} {cs : List Value} (h : CT.At w S (.mk k c r a v args) cs) :
  ∃ (p : Option Addr) (cap : Nat), cs = [.int .i64 k, .int .i64 c, .int .i64 r, .int .u64 (a : Nat), .int .u64 (v : Nat), .slice p args.length cap] ∧ args.length ≤ cap ∧ cap ≤ maxLen ∧ a < 18446744073709551616 ∧ (v < 18446744073709551616 ∧ I64 k ∧ I64 c ∧ I64 r) ∧ CT.Row w S p 0 args := by
 unfold CT.At at h
 exact h
theorem CT.Row.below {w w' : World} {S : Nat → Prop} {p : Option Addr} {i : Nat} {ts : List CT} (h : CT.Row w S p i ts) (hb : Below w.heap.size w w') : CT.Row w' S p i ts :=
 CT.Row.keep (fun a v _ hc => (hb.cell (World.block_lt_of_cell? w a hc)).trans hc) p i ts h
theorem own_box (w : World) (L : Array Value) : Blk (w.alloc (.cells L 29)) 29 w.heap.size L.toList := by
 have := Blk.new w 29 L.toList
 simpa using this
theorem blk_cells6' {w : World} {g : Nat} {a b c d e f : Value} (h : Blk w 29 g [a, b, c, d, e, f]) :
  w.cell? ⟨g, 0, none⟩ = some a ∧ w.cell? ⟨g, 1, none⟩ = some b ∧ w.cell? ⟨g, 2, none⟩ = some c ∧ w.cell? ⟨g, 3, none⟩ = some d ∧ w.cell? ⟨g, 4, none⟩ = some e ∧ w.cell? ⟨g, 5, none⟩ = some f :=
 ⟨h.cell 0, h.cell 1, h.cell 2, h.cell 3, h.cell 4, h.cell 5⟩
theorem CT.At.drew {w : World} {S : Nat → Prop} {t : CT} {cs : List Value} (h : CT.At w S t cs) : CT.At w.drew S t cs := h.below (Below.refl _ _).drew
theorem cell_below_drew {w w' : World} {p : Addr} {u : Value} (h : w.cell? p = some u) (hb : Below w.drew.heap.size w.drew w') : w'.cell? p = some u := cell_below (show w.drew.cell? p = some u from h) hb
theorem blk_drew {w : World} {T : TypeId} {g : Nat} {cs : List Value} (h : Blk w T g cs) : Blk w.drew T g cs := h
end
section
open Go.RowKit
mutual
def countT : CT → Nat
 | .mk _ _ _ _ _ args => 1 + countL args
def countL : List CT → Nat
 | [] => 0
 | t :: ts => countT t + countL ts
end
theorem countL_append : ∀ (a b : List CT), countL (a ++ b) = countL a + countL b
 | [], b => by simp [countL]
 | t :: a, b => by simp only [List.cons_append, countL, countL_append a b]; omega
theorem countL_take (l : List CT) (j : Nat) (hj : j < l.length) : countL (l.take (j + 1)) = countL (l.take j) + countT l[j] ∧ countL (l.take j) + countT l[j] ≤ countL l := by
 have e : countL (l.take (j + 1)) = countL (l.take j) + countT l[j] := by
  rw [List.take_succ_eq_append_getElem hj, countL_append]; simp [countL]
 refine ⟨e, ?_⟩
 have h := countL_append (l.take (j + 1)) (l.drop (j + 1))
 rw [List.take_append_drop] at h
 omega
def hexL (v : Nat) : List UInt8 := [48, 120] ++ txt 16 v
def levelT : CT → Nat
 | .mk k _ _ _ _ _ => if k = 5 then 1 else if k = 4 then 2 else 3
def innerL (least : Nat) (x : Nat × List UInt8) : List UInt8 := if x.1 < least then [40] ++ x.2 ++ [41] else x.2
def argsX (k : Int) : List (Nat × List UInt8) → List UInt8
 | [x] => if k = 6 then [126] ++ innerL 3 x else []
 | [x, y] => if k = 4 then innerL 2 x ++ [32, 47, 92, 32] ++ innerL 3 y else if k = 5 then innerL 1 x ++ [32, 92, 47, 32] ++ innerL 2 y else []
 | _ => []
def nodeX (k : Int) (x1 x2 x3 x4 : List UInt8) (ps : List (Nat × List UInt8)) : List UInt8 :=
 if k = 1 then x1 ++ [58] ++ x2 ++ [61] ++ x4
 else if k = 2 then [91] ++ x3 ++ [93, 61] ++ x4
 else if k = 3 then [102, 97, 117, 108, 116, 115, 32] ++ x1 ++ [61] ++ x4
 else if k = 7 then [116, 114, 117, 101]
 else argsX k ps
def nodeL (k c r : Int) (a v : Nat) (ps : List (Nat × List UInt8)) : List UInt8 := nodeX k (intL c) (regL r) (hexL a) (hexL v) ps
mutual
def printT : CT → List UInt8
 | .mk k c r a v args => nodeL k c r a v (printL args)
def printL : List CT → List (Nat × List UInt8)
 | [] => []
 | t :: ts => (levelT t, printT t) :: printL ts
end
theorem hexL_len (v : Nat) (hv : v < 18446744073709551616) : (hexL v).length ≤ 66 := by
 have := txt_len64 16 v (by decide) hv
 unfold hexL
 simp; omega
theorem innerL_len (n : Nat) (x : Nat × List UInt8) : (innerL n x).length ≤ x.2.length + 2 := by
 unfold innerL
 split
 ·simp
 ·omega
inductive CT.Fits : CT → Prop
 | mk {k c r : Int} {a v : Nat} {args : List CT} (h : a < 18446744073709551616 ∧ v < 18446744073709551616 ∧ I64 k ∧ I64 c ∧ I64 r) (ha : ∀ u ∈ args, CT.Fits u) : CT.Fits (.mk k c r a v args)
theorem CT.At.fits {w : World} {S : Nat → Prop} : ∀ (t : CT) (cs : List Value), CT.At w S t cs → t.Fits := by
 intro t
 refine CT.ind (P := fun t => ∀ cs : List Value, CT.At w S t cs → t.Fits) ?_ t
 intro k c r a v args IH cs h
 obtain ⟨p, cap, rfl, h1, h2, h3, h4, h5⟩ := h.own
 refine .mk ⟨h3, h4⟩ (fun u hu => ?_)
 obtain ⟨j, hj, rfl⟩ := List.getElem_of_mem hu
 obtain ⟨g, off, es, _, _, _, _, h6⟩ := h5.at_ hj
 exact IH _ hu _ h6
theorem print_len : ∀ (t : CT), t.Fits → (printT t).length ≤ 300 * countT t := by
 intro t
 refine CT.ind (P := fun t => t.Fits → (printT t).length ≤ 300 * countT t) ?_ t
 intro k c r a v args IH h
 cases h with
 | mk h ha =>
  obtain ⟨h1, h2, h3, h4, h5⟩ := h
  have b1 := intL_len c h4
  have b2 := regL_len r h5
  have b3 := hexL_len a h1
  have b4 := hexL_len v h2
  rw [printT, countT]
  unfold nodeL nodeX
  split
  ·simp; omega
  ·split
   ·simp; omega
   ·split
    ·simp; omega
    ·split
     ·simp; omega
     ·match args, IH, ha with
      | [], _, _ => simp [printL, argsX]
      | [x], IH, ha =>
       have hx := IH x (by simp) (ha x (by simp))
       have hi := innerL_len 3 (levelT x, printT x)
       simp only [printL, countL, argsX]
       split
       ·simp at hi ⊢; omega
       ·simp
      | [x, y], IH, ha =>
       have hx := IH x (by simp) (ha x (by simp))
       have hy := IH y (by simp) (ha y (by simp))
       have hi := innerL_len 2 (levelT x, printT x)
       have hi1 := innerL_len 1 (levelT x, printT x)
       have hj := innerL_len 3 (levelT y, printT y)
       have hj2 := innerL_len 2 (levelT y, printT y)
       simp only [printL, countL, argsX]
       split
       ·simp at hi hj ⊢; omega
       ·split
        ·simp at hi1 hj2 ⊢; omega
        ·simp
      | x :: y :: z :: l, _, _ => simp [printL, argsX]
def headS (k c r : Int) (a v l : Nat) (k' c' r' : Int) (a' v' l' : Nat) : Bool := decide (k = k' ∧ c = c' ∧ r = r' ∧ a = a' ∧ v = v' ∧ l = l')
mutual
def sameT : CT → CT → Bool
 | .mk k c r a v l, .mk k' c' r' a' v' bs => headS k c r a v l.length k' c' r' a' v' bs.length && sameL l bs
def sameL : List CT → List CT → Bool
 | x :: l, y :: bs => sameT x y && sameL l bs
 | _, _ => true
end
theorem sameL_hit : ∀ (l bs : List CT) (j : Nat) (h : j < l.length) (h' : j < bs.length), sameT l[j] bs[j] = false → sameL l bs = false
 | x :: l, y :: bs, 0, h, h', e => by
  have e' : sameT x y = false := e
  rw [sameL, e']; rfl
 | x :: l, y :: bs, j + 1, h, h', e => by
  rw [sameL, sameL_hit l bs j (by simpa using h) (by simpa using h') (by simpa using e)]
  simp
theorem sameL_all : ∀ (l bs : List CT), (∀ (j : Nat) (h : j < l.length) (h' : j < bs.length), sameT l[j] bs[j] = true) → sameL l bs = true
 | [], bs, _ => by rw [sameL]; intro x l y bs h; cases h
 | x :: l, [], _ => by rw [sameL]; intro x l y bs _ h; cases h
 | x :: l, y :: bs, h => by
  rw [sameL, show sameT x y = true from h 0 (by simp) (by simp), sameL_all l bs (fun j h1 h2 => h (j + 1) (by simpa using h1) (by simpa using h2))]
  rfl
def zeroT (k c r : Int) (a v : Nat) (args : List CT) : CT := if k = 1 then .mk 1 c r 0 v args else if k = 2 then .mk 2 0 0 a v args else if k = 3 then .mk 3 c 0 0 v args else .mk k 0 0 0 0 args
mutual
def cleanT : CT → Bool
 | .mk k c r a v args => sameT (zeroT k c r a v args) (.mk k c r a v args) && cleanL args
def cleanL : List CT → Bool
 | [] => true
 | t :: ts => cleanT t && cleanL ts
end
theorem cleanL_all : ∀ (l : List CT), (∀ (j : Nat) (h : j < l.length), cleanT l[j] = true) → cleanL l = true
 | [], _ => by rw [cleanL]
 | x :: l, h => by
  rw [cleanL, show cleanT x = true from h 0 (by simp), cleanL_all l (fun j h1 => h (j + 1) (by simpa using h1))]
  rfl
def wantN (k : Int) : Int := if k = 4 ∨ k = 5 then 2 else if k = 6 then 1 else 0
def headR (k c r cores : Int) (len : Nat) : Int :=
 if k < 1 ∨ 7 < k ∨ ¬ (len : Int) = wantN k ∨ (k = 1 ∧ (r < 0 ∨ 31 ≤ r)) then 1 else if (k = 1 ∨ k = 3) ∧ (c < 0 ∨ cores ≤ c) then 131 else 0
mutual
def rightT (cores : Int) : CT → Int
 | .mk k c r _ _ args => if headR k c r cores args.length = 0 then rightL cores args else headR k c r cores args.length
def rightL (cores : Int) : List CT → Int
 | [] => 0
 | t :: ts => if rightT cores t = 0 then rightL cores ts else rightT cores t
end
theorem rightL_append (cores : Int) : ∀ (a b : List CT), rightL cores (a ++ b) = if rightL cores a = 0 then rightL cores b else rightL cores a
 | [], b => by simp [rightL]
 | t :: a, b => by
  simp only [List.cons_append, rightL, rightL_append cores a b]
  by_cases h : rightT cores t = 0
  ·simp [h]
  ·simp [h]
theorem rightL_take (cores : Int) (l : List CT) (j : Nat) (hj : j < l.length) (h0 : rightL cores (l.take j) = 0) :
  rightL cores (l.take (j + 1)) = rightT cores l[j] ∧ (¬ rightT cores l[j] = 0 → rightL cores l = rightT cores l[j]) := by
 have e : rightL cores (l.take (j + 1)) = rightT cores l[j] := by
  rw [List.take_succ_eq_append_getElem hj, rightL_append, if_pos h0]
  simp only [rightL]
  split
  ·rename_i h; exact h.symm
  ·rfl
 refine ⟨e, fun h => ?_⟩
 have h2 := rightL_append cores (l.take (j + 1)) (l.drop (j + 1))
 rw [List.take_append_drop, e, if_neg h] at h2
 exact h2
def RightT (cores : Int) (t : CT) : Int := if 64 < countT t then 120 else rightT cores t
theorem head0 {k c r cores : Int} {len : Nat} (h : headR k c r cores len = 0) : (1 ≤ k ∧ k ≤ 7) ∧ (len : Int) = wantN k ∧ (k = 1 → 0 ≤ r ∧ r < 31) ∧ (k = 1 ∨ k = 3 → 0 ≤ c ∧ c < cores) := by
 unfold headR at h
 split at h
 ·cases h
 ·split at h
  ·cases h
  ·rename_i h1 h2
   refine ⟨by omega, by omega, fun e => by omega, fun e => by omega⟩
theorem right0 {k c r cores : Int} {a v : Nat} {args : List CT} (h : rightT cores (.mk k c r a v args) = 0) : headR k c r cores args.length = 0 ∧ ∀ t ∈ args, rightT cores t = 0 := by
 rw [rightT] at h
 split at h
 ·rename_i h0
  refine ⟨h0, ?_⟩
  clear h0
  induction args with
  | nil => intro t ht; cases ht
  | cons x l ih =>
   rw [rightL] at h
   split at h
   ·rename_i hx
    intro t ht
    rcases List.mem_cons.1 ht with rfl | h1
    ·exact hx
    ·exact ih h t h1
   ·rename_i hx; exact absurd h hx
 ·rename_i h0; exact absurd h h0
theorem sameT_refl : ∀ t : CT, sameT t t = true := by
 intro t
 refine CT.ind (P := fun t => sameT t t = true) ?_ t
 intro k c r a v args ih
 rw [sameT, show headS k c r a v args.length k c r a v args.length = true by unfold headS; simp, Bool.true_and]
 exact sameL_all args args (fun j h _ => ih _ (List.getElem_mem h))
end
section
open Go.RowKit
structure GCore where
 regs : List Nat
 space : Int
 table : Nat
 code : List Ins
 hand : List Ins
structure GSrc where
 name : ByteArray
 cells : List (Nat × Nat)
 cores : List GCore
 fa : Bool
 cond : CT
 tables : List Nat
 pT : List Int
 pC : List Int
 pCo : List Int
 pI : List (List Int)
 pCond : Int
def gcore (c : CoreA) : GCore := ⟨c.regs, (c.space : Nat), c.table, c.code, c.hand⟩
def gsrc (x : SrcA) : GSrc := ⟨x.name, x.cells, x.cores.map gcore, x.fa, x.cond, x.tables, x.pT, x.pC, x.pCo, x.pI, x.pCond⟩
def placeL (l : List Int) (i : Nat) : Int := l.getD i 0
def baseB (t : Nat) : Bool := decide (t % 4096 = 0) && decide (t < 4294967296)
def tablesE (p : List Int) : List Nat → List Nat → Int × Int
 | _, [] => (0, 0)
 | pre, t :: l => if baseB t = false then (133, placeL p pre.length) else if t ∈ pre then (132, placeL p pre.length) else tablesE p (pre ++ [t]) l
def addrE (a : Nat) : Int := if ¬ a % 8 = 0 then 60 else if 4294967296 ≤ a then 1 else 0
def cellsE (p : List Int) : List Nat → List Nat → Int × Int
 | _, [] => (0, 0)
 | pre, a :: l => if ¬ addrE a = 0 then (addrE a, placeL p pre.length) else if a ∈ pre then (130, placeL p pre.length) else cellsE p (pre ++ [a]) l
def brB (op : Int) : Bool := op == 15 || op == 16 || op == 17
def insE (x : Ins) (left : Nat) (h : Bool) : Int :=
 if ¬ rightP x.op x.d x.n x.m x.imm x.kind then 30
 else if x.op = 22 ∧ h = false then 30
 else if x.op = 14 ∨ brB x.op = true then (if x.imm < 1 then 134 else if (left : Int) < x.imm then 1 else 0)
 else 0
def codeE (h : Bool) : Nat → List Ins → Nat × Int
 | _, [] => (0, 0)
 | i, x :: l => if insE x (l.length + 1) h = 0 then codeE h (i + 1) l else (i, insE x (l.length + 1) h)
def coreE (tables : List Nat) (c : GCore) (at_ : Int) (places : List Int) : Int × Int :=
 if ¬ c.table % 4096 = 0 then (133, at_)
 else if ¬ c.table ∈ tables then (131, at_)
 else if c.space < 0 ∨ 65536 ≤ c.space then (1, at_)
 else if 16 < c.code.length then (136, placeL places 16)
 else if 16 < c.hand.length then (136, placeL places (c.code.length + 16))
 else if ¬ (codeE false 0 c.code).2 = 0 then ((codeE false 0 c.code).2, placeL places (codeE false 0 c.code).1)
 else if ¬ (codeE true 0 c.hand).2 = 0 then ((codeE true 0 c.hand).2, placeL places (c.code.length + (codeE true 0 c.hand).1))
 else (0, 0)
def coresE (x : GSrc) : Nat → List GCore → Int × Int
 | _, [] => (0, 0)
 | i, c :: l =>
  let a := coreE x.tables c (placeL x.pCo i) (x.pI.getD i [])
  if a.1 = 0 then coresE x (i + 1) l else a
def accB (op : Int) : Bool := (op == 2 || op == 4) || (op == 3 || op == 5)
def weighE (cores : Nat) : List Ins → Nat × Nat
 | [] => (0, 0)
 | x :: l =>
  let r := weighE cores l
  if accB x.op = true then (r.1 + 3, r.2 + 1)
  else if x.op = 21 ∧ x.kind < 4 then (r.1 + (1 + cores), r.2)
  else if x.op = 21 then (r.1 + 2, r.2)
  else r
def eventsE (cores : Nat) : List GCore → Nat
 | [] => 0
 | c :: l => (weighE cores c.code).1 + (weighE cores c.code).2 * (weighE cores c.hand).1 + eventsE cores l
def checkE (x : GSrc) : Int × Int :=
 let a := tablesE x.pT [] x.tables
 if ¬ a.1 = 0 then a
 else if 192 < x.cells.length then (2, placeL x.pC 192)
 else
  let b := cellsE x.pC [] (x.cells.map Prod.fst)
  if ¬ b.1 = 0 then b
  else if x.cores.length = 0 ∨ 4 < x.cores.length then (135, placeL x.pCo 4)
  else
   let c := coresE x 0 x.cores
   if ¬ c.1 = 0 then c
   else if 64 < eventsE x.cores.length x.cores then (137, placeL x.pCo 0)
   else if ¬ RightT (x.cores.length : Nat) x.cond = 0 then (RightT (x.cores.length : Nat) x.cond, x.pCond)
   else (0, 0)
def readA (s : ByteArray) : SrcA × Int × Int :=
 if ¬ (litA s).2.1 = 0 then (src0, (litA s).2)
 else if ¬ (checkE (gsrc (litA s).1)).1 = 0 then (src0, checkE (gsrc (litA s).1))
 else ((litA s).1, 0, 0)
theorem tablesE_code (p q : List Int) : ∀ (l pre : List Nat), (tablesE p pre l).1 = (tablesE q pre l).1
 | [], _ => rfl
 | t :: l, pre => by
  unfold tablesE
  split
  ·rfl
  split
  ·rfl
  ·exact tablesE_code p q l (pre ++ [t])
theorem cellsE_code (p q : List Int) : ∀ (l pre : List Nat), (cellsE p pre l).1 = (cellsE q pre l).1
 | [], _ => rfl
 | t :: l, pre => by
  unfold cellsE
  split
  ·rfl
  split
  ·rfl
  ·exact cellsE_code p q l (pre ++ [t])
theorem coreE_code (t : List Nat) (c : GCore) (a b : Int) (p q : List Int) : (coreE t c a p).1 = (coreE t c b q).1 := by
 unfold coreE
 by_cases h1 : ¬ c.table % 4096 = 0
 ·rw [if_pos h1, if_pos h1]
 rw [if_neg h1, if_neg h1]
 by_cases h2 : ¬ c.table ∈ t
 ·rw [if_pos h2, if_pos h2]
 rw [if_neg h2, if_neg h2]
 by_cases h3 : c.space < 0 ∨ 65536 ≤ c.space
 ·rw [if_pos h3, if_pos h3]
 rw [if_neg h3, if_neg h3]
 by_cases h4 : 16 < c.code.length
 ·rw [if_pos h4, if_pos h4]
 rw [if_neg h4, if_neg h4]
 by_cases h5 : 16 < c.hand.length
 ·rw [if_pos h5, if_pos h5]
 rw [if_neg h5, if_neg h5]
 by_cases h6 : ¬ (codeE false 0 c.code).2 = 0
 ·rw [if_pos h6, if_pos h6]
 rw [if_neg h6, if_neg h6]
 by_cases h7 : ¬ (codeE true 0 c.hand).2 = 0
 ·rw [if_pos h7, if_pos h7]
 rw [if_neg h7, if_neg h7]
theorem coresE_code (x y : GSrc) (h : x.tables = y.tables) : ∀ (l : List GCore) (i : Nat), (coresE x i l).1 = (coresE y i l).1
 | [], _ => rfl
 | c :: l, i => by
  have e := coreE_code x.tables c (placeL x.pCo i) (placeL y.pCo i) (x.pI.getD i []) (y.pI.getD i [])
  unfold coresE
  dsimp only
  rw [← h, ← e]
  split
  ·exact coresE_code x y h l (i + 1)
  ·rw [e]
theorem pick {p q : Prop} [Decidable p] [Decidable q] {a b c d : Int × Int} (h : p ↔ q) (h1 : p → a.1 = c.1) (h2 : ¬ p → b.1 = d.1) : (if p then a else b).1 = (if q then c else d).1 := by
 by_cases hp : p
 ·rw [if_pos hp, if_pos (h.1 hp)]; exact h1 hp
 ·rw [if_neg hp, if_neg (fun e => hp (h.2 e))]; exact h2 hp
theorem checkE_code (x y : GSrc) (h1 : x.tables = y.tables) (h2 : x.cells = y.cells) (h3 : x.cores = y.cores) (h4 : x.cond = y.cond) : (checkE x).1 = (checkE y).1 := by
 have a := tablesE_code x.pT y.pT x.tables []
 have b := cellsE_code x.pC y.pC (x.cells.map Prod.fst) []
 have c := coresE_code x y h1 x.cores 0
 unfold checkE
 dsimp only
 rw [← h1, ← h2, ← h3, ← h4]
 refine pick (by rw [a]) (fun _ => a) (fun _ => pick Iff.rfl (fun _ => rfl) (fun _ => pick (by rw [b]) (fun _ => b) (fun _ => pick Iff.rfl (fun _ => rfl) (fun _ => pick (by rw [c]) (fun _ => c) (fun _ => pick Iff.rfl (fun _ => rfl) (fun _ => pick Iff.rfl (fun _ => rfl) (fun _ => rfl)))))))
end
section
open Go.RowKit
theorem results_cell_tmp_row {P : Program} {fn : Func} {p u : Tmp} {ty : TypeId} (h : fn.results = #[.cell p ty, .tmp u]) (tmps : Array Value) (w : World) (g : Nat) (t : TypeId) (cs : Array Value) (fr : Nat × Nat) (d : TypeDesc)
  (hp : tmps.getD p undef = .pointer (some ⟨g, 0, none⟩)) (hg : w.heap[g]? = some (.cells cs t fr))
  (hu : P.underlying ty = some d) (hd : (match d with | .struct _ | .array _ _ => true | _ => false) = true) (hi : (P.info? ty).map (·.size) = some cs.size) :
  (results fn tmps).run P w = .ok (.tuple #[.agg cs, tmps.getD u undef]) w := by
 have hp' : tmps[p]?.getD undef = .pointer (some ⟨g, 0, none⟩) := by simpa using hp
 simp [results, h, hp', asAddr, run_loadVar_row w g t ty cs fr d hg hu hd hi]
theorem ireg_any (n : Int) (w : World) :
  Calls Tryz.prog 141 #[.int .i64 n] w fun e w' => e = .returned (.bool (inB n 0 31)) ∧ w = w' := by
 have H : Hid (inB n 0 31 = decide (0 ≤ n ∧ n ≤ 31)) := rfl
 by_cases h1 : 0 ≤ n <;> by_cases h2 : n ≤ 31 <;> (
  go_enter Tryz.func141, Tryz.ntmps141
  go_wp2
  go_ret
  refine ⟨ret_bool ?_, rfl⟩
  rw [H.out]
  simp [h1, h2])
theorem low_15 (n : Int) (w : World) :
  Calls Tryz.prog 153 #[.int .i64 n, .int .i64 15] w fun e w' => e = .returned (.bool (inB n 0 32767)) ∧ w = w' := by
 have H : Hid (inB n 0 32767 = decide (0 ≤ n ∧ n ≤ 32767)) := rfl
 by_cases h1 : 0 ≤ n <;> by_cases h2 : n < 32768 <;> (
  go_enter Tryz.func153, Tryz.ntmps153
  go_wp2
  go_ret
  refine ⟨ret_bool ?_, rfl⟩
  rw [H.out]
  simp [h1]
  try omega)
theorem low_12 (n : Int) (w : World) :
  Calls Tryz.prog 153 #[.int .i64 n, .int .i64 12] w fun e w' => e = .returned (.bool (inB n 0 4095)) ∧ w = w' := by
 have H : Hid (inB n 0 4095 = decide (0 ≤ n ∧ n ≤ 4095)) := rfl
 by_cases h1 : 0 ≤ n <;> by_cases h2 : n < 4096 <;> (
  go_enter Tryz.func153, Tryz.ntmps153
  go_wp2
  go_ret
  refine ⟨ret_bool ?_, rfl⟩
  rw [H.out]
  simp [h1]
  try omega)
theorem low_16 (n : Int) (w : World) :
  Calls Tryz.prog 153 #[.int .i64 n, .int .i64 16] w fun e w' => e = .returned (.bool (inB n 0 65535)) ∧ w = w' := by
 have H : Hid (inB n 0 65535 = decide (0 ≤ n ∧ n ≤ 65535)) := rfl
 by_cases h1 : 0 ≤ n <;> by_cases h2 : n < 65536 <;> (
  go_enter Tryz.func153, Tryz.ntmps153
  go_wp2
  go_ret
  refine ⟨ret_bool ?_, rfl⟩
  rw [H.out]
  simp [h1]
  try omega)
theorem low_2 (n : Int) (w : World) :
  Calls Tryz.prog 153 #[.int .i64 n, .int .i64 2] w fun e w' => e = .returned (.bool (inB n 0 3)) ∧ w = w' := by
 have H : Hid (inB n 0 3 = decide (0 ≤ n ∧ n ≤ 3)) := rfl
 by_cases h1 : 0 ≤ n <;> by_cases h2 : n < 4 <;> (
  go_enter Tryz.func153, Tryz.ntmps153
  go_wp2
  go_ret
  refine ⟨ret_bool ?_, rfl⟩
  rw [H.out]
  simp [h1]
  try omega)
theorem low_1 (n : Int) (w : World) :
  Calls Tryz.prog 153 #[.int .i64 n, .int .i64 1] w fun e w' => e = .returned (.bool (inB n 0 1)) ∧ w = w' := by
 have H : Hid (inB n 0 1 = decide (0 ≤ n ∧ n ≤ 1)) := rfl
 by_cases h1 : 0 ≤ n <;> by_cases h2 : n < 2 <;> (
  go_enter Tryz.func153, Tryz.ntmps153
  go_wp2
  go_ret
  refine ⟨ret_bool ?_, rfl⟩
  rw [H.out]
  simp [h1]
  try omega)
theorem low_3 (n : Int) (w : World) :
  Calls Tryz.prog 153 #[.int .i64 n, .int .i64 3] w fun e w' => e = .returned (.bool (inB n 0 7)) ∧ w = w' := by
 have H : Hid (inB n 0 7 = decide (0 ≤ n ∧ n ≤ 7)) := rfl
 by_cases h1 : 0 ≤ n <;> by_cases h2 : n < 8 <;> (
  go_enter Tryz.func153, Tryz.ntmps153
  go_wp2
  go_ret
  refine ⟨ret_bool ?_, rfl⟩
  rw [H.out]
  simp [h1]
  try omega)
theorem fits_26 (n : Int) (w : World) :
  Calls Tryz.prog 154 #[.int .i64 n, .int .i64 26] w fun e w' => e = .returned (.bool (inB n (-33554432) 33554431)) ∧ w = w' := by
 have H : Hid (inB n (-33554432) 33554431 = decide (-33554432 ≤ n ∧ n ≤ 33554431)) := rfl
 by_cases h1 : -33554432 ≤ n <;> by_cases h2 : n < 33554432 <;> (
  go_enter Tryz.func154, Tryz.ntmps154
  go_wp2
  go_ret
  refine ⟨ret_bool ?_, rfl⟩
  rw [H.out]
  simp [h1]
  try omega)
theorem fits_19 (n : Int) (w : World) :
  Calls Tryz.prog 154 #[.int .i64 n, .int .i64 19] w fun e w' => e = .returned (.bool (inB n (-262144) 262143)) ∧ w = w' := by
 have H : Hid (inB n (-262144) 262143 = decide (-262144 ≤ n ∧ n ≤ 262143)) := rfl
 by_cases h1 : -262144 ≤ n <;> by_cases h2 : n < 262144 <;> (
  go_enter Tryz.func154, Tryz.ntmps154
  go_wp2
  go_ret
  refine ⟨ret_bool ?_, rfl⟩
  rw [H.out]
  simp [h1]
  try omega)
def lowT (b : Int) : Int := if b = 1 then 1 else if b = 2 then 3 else if b = 3 then 7 else if b = 12 then 4095 else if b = 15 then 32767 else 65535
theorem low_any (n b : Int) (w : World) (hb : b = 1 ∨ b = 2 ∨ b = 3 ∨ b = 12 ∨ b = 15 ∨ b = 16) :
  Calls Tryz.prog 153 #[.int .i64 n, .int .i64 b] w fun e w' => e = .returned (.bool (inB n 0 (lowT b))) ∧ w = w' := by
 rcases hb with rfl | rfl | rfl | rfl | rfl | rfl
 ·exact low_1 n w
 ·exact low_2 n w
 ·exact low_3 n w
 ·exact low_12 n w
 ·exact low_15 n w
 ·exact low_16 n w
def fitsL (b : Int) : Int := if b = 26 then -33554432 else -262144
def fitsH (b : Int) : Int := if b = 26 then 33554431 else 262143
theorem fits_any (n b : Int) (w : World) (hb : b = 26 ∨ b = 19) :
  Calls Tryz.prog 154 #[.int .i64 n, .int .i64 b] w fun e w' => e = .returned (.bool (inB n (fitsL b) (fitsH b))) ∧ w = w' := by
 rcases hb with rfl | rfl
 ·exact fits_26 n w
 ·exact fits_19 n w
def barB (k : Int) : Bool := decide ((9 ≤ k ∧ k ≤ 11) ∨ (13 ≤ k ∧ k ≤ 15))
theorem ibar_any (n : Int) (w : World) :
  Calls Tryz.prog 155 #[.int .i64 n] w fun e w' => e = .returned (.bool (barB n)) ∧ w = w' := by
 by_cases h9 : n = 9
 ·subst h9; go_enter Tryz.func155, Tryz.ntmps155; go_wp2; go_ret; exact ⟨rfl, rfl⟩
 by_cases h10 : n = 10
 ·subst h10; go_enter Tryz.func155, Tryz.ntmps155; go_wp2; go_ret; exact ⟨rfl, rfl⟩
 by_cases h11 : n = 11
 ·subst h11; go_enter Tryz.func155, Tryz.ntmps155; go_wp2; go_ret; exact ⟨rfl, rfl⟩
 by_cases h13 : n = 13
 ·subst h13; go_enter Tryz.func155, Tryz.ntmps155; go_wp2; go_ret; exact ⟨rfl, rfl⟩
 by_cases h14 : n = 14
 ·subst h14; go_enter Tryz.func155, Tryz.ntmps155; go_wp2; go_ret; exact ⟨rfl, rfl⟩
 by_cases h15 : n = 15
 ·subst h15; go_enter Tryz.func155, Tryz.ntmps155; go_wp2; go_ret; exact ⟨rfl, rfl⟩
 have e9 : (n == 9) = false := beq_eq_false_iff_ne.2 h9
 have e10 : (n == 10) = false := beq_eq_false_iff_ne.2 h10
 have e11 : (n == 11) = false := beq_eq_false_iff_ne.2 h11
 have e13 : (n == 13) = false := beq_eq_false_iff_ne.2 h13
 have e14 : (n == 14) = false := beq_eq_false_iff_ne.2 h14
 have e15 : (n == 15) = false := beq_eq_false_iff_ne.2 h15
 have HX := h_ (show barB n = false from decide_eq_false (by omega))
 go_enter Tryz.func155, Tryz.ntmps155
 go_wp2
 go_ret
 exact ⟨by rw [HX.out]; rfl, rfl⟩
def shp (op : Int) : Bool × Bool × Bool × Bool × Bool := (decide (op = 2 ∨ op = 3 ∨ op = 4 ∨ op = 5 ∨ op = 6 ∨ op = 7 ∨ op = 8 ∨ op = 9 ∨ op = 10 ∨ op = 11 ∨ op = 12 ∨ op = 13 ∨ op = 15 ∨ op = 16 ∨ op = 21 ∨ op = 23), decide (op = 2 ∨ op = 3 ∨ op = 4 ∨ op = 5 ∨ op = 7 ∨ op = 8 ∨ op = 9 ∨ op = 10 ∨ op = 11 ∨ op = 12 ∨ op = 13), decide (op = 8 ∨ op = 9 ∨ op = 10 ∨ op = 11 ∨ op = 12 ∨ op = 13), decide (op = 2 ∨ op = 3 ∨ op = 6 ∨ op = 7 ∨ op = 14 ∨ op = 15 ∨ op = 16 ∨ op = 17), decide (op = 6 ∨ op = 17 ∨ op = 18 ∨ op = 19 ∨ op = 21 ∨ op = 23))
theorem iparts_all (op : Int) (w : World) (h : opB op = true) (a b c d e : Bool) (hs : shp op = (a, b, c, d, e)) : Calls Tryz.prog 140 #[.int .i64 op] w fun r w' => r = .returned (.tuple #[.agg #[.bool a, .bool b, .bool c, .bool d, .bool e], .bool true]) ∧ Below w.heap.size w w' := by
 have HB := h_ (bl_ (Below.refl w.heap.size w) (.cells #[.bool a, .bool b, .bool c, .bool d, .bool e] 185))
 have HN := h_ (Blk.new w 185 [.bool a, .bool b, .bool c, .bool d, .bool e])
 rcases opB_cases h with rfl | rfl | rfl | rfl | rfl | rfl | rfl | rfl | rfl | rfl | rfl | rfl | rfl | rfl | rfl | rfl | rfl | rfl | rfl | rfl | rfl | rfl | rfl
 all_goals (
  simp [shp] at hs
  obtain ⟨rfl, rfl, rfl, rfl, rfl⟩ := hs
  clear h
  go_enter Tryz.func140, Tryz.ntmps140
  go_wp2
  exact bodyPost_ret (results_cell_tmp_row rfl _ _ w.heap.size 185 #[.bool _, .bool _, .bool _, .bool _, .bool _] (0, 0) _ rfl HN.out Tryz.underlying185 rfl (by kernel_rfl)) rfl ⟨rfl, HB.out⟩)
theorem iparts_no (op : Int) (w : World) (h : opB op = false) : Calls Tryz.prog 140 #[.int .i64 op] w fun e w' => e = .returned (.tuple #[.agg #[.bool false, .bool false, .bool false, .bool false, .bool false], .bool false]) ∧ Below w.heap.size w w' := by
 have h' : ¬ (1 ≤ op ∧ op ≤ 23) := of_decide_eq_false h
 have HB := h_ (bl_ (Below.refl w.heap.size w) (.cells #[.bool false, .bool false, .bool false, .bool false, .bool false] 185))
 have HN := h_ (Blk.new w 185 [.bool false, .bool false, .bool false, .bool false, .bool false])
 have e1 : (op == 1) = false := beq_eq_false_iff_ne.2 (by omega)
 have e2 : (op == 2) = false := beq_eq_false_iff_ne.2 (by omega)
 have e3 : (op == 3) = false := beq_eq_false_iff_ne.2 (by omega)
 have e4 : (op == 4) = false := beq_eq_false_iff_ne.2 (by omega)
 have e5 : (op == 5) = false := beq_eq_false_iff_ne.2 (by omega)
 have e6 : (op == 6) = false := beq_eq_false_iff_ne.2 (by omega)
 have e7 : (op == 7) = false := beq_eq_false_iff_ne.2 (by omega)
 have e8 : (op == 8) = false := beq_eq_false_iff_ne.2 (by omega)
 have e9 : (op == 9) = false := beq_eq_false_iff_ne.2 (by omega)
 have e10 : (op == 10) = false := beq_eq_false_iff_ne.2 (by omega)
 have e11 : (op == 11) = false := beq_eq_false_iff_ne.2 (by omega)
 have e12 : (op == 12) = false := beq_eq_false_iff_ne.2 (by omega)
 have e13 : (op == 13) = false := beq_eq_false_iff_ne.2 (by omega)
 have e14 : (op == 14) = false := beq_eq_false_iff_ne.2 (by omega)
 have e15 : (op == 15) = false := beq_eq_false_iff_ne.2 (by omega)
 have e16 : (op == 16) = false := beq_eq_false_iff_ne.2 (by omega)
 have e17 : (op == 17) = false := beq_eq_false_iff_ne.2 (by omega)
 have e18 : (op == 18) = false := beq_eq_false_iff_ne.2 (by omega)
 have e19 : (op == 19) = false := beq_eq_false_iff_ne.2 (by omega)
 have e20 : (op == 20) = false := beq_eq_false_iff_ne.2 (by omega)
 have e21 : (op == 21) = false := beq_eq_false_iff_ne.2 (by omega)
 have e22 : (op == 22) = false := beq_eq_false_iff_ne.2 (by omega)
 have e23 : (op == 23) = false := beq_eq_false_iff_ne.2 (by omega)
 clear h h'
 go_enter Tryz.func140, Tryz.ntmps140
 go_wp2
 exact bodyPost_ret (results_cell_tmp_row rfl _ _ w.heap.size 185 #[.bool false, .bool false, .bool false, .bool false, .bool false] (0, 0) _ rfl HN.out Tryz.underlying185 rfl (by kernel_rfl)) rfl ⟨rfl, HB.out⟩
def numI (op d imm kind : Int) : Bool := decide (rightC op imm kind ∧ rightD op d kind)
theorem num_iff {op d imm kind : Int} {b : Bool} (h : b = true ↔ rightC op imm kind ∧ rightD op d kind) : b = numI op d imm kind := by
 unfold numI
 cases b with
 | true => exact (decide_eq_true (h.1 rfl)).symm
 | false => exact (decide_eq_false (fun hp => by cases h.2 hp)).symm
theorem inum_any (op d n m imm kind : Int) (w : World) (h : opB op = true) :
  Calls Tryz.prog 142 #[instrW op d n m imm kind] w fun e w' => e = .returned (.bool (numI op d imm kind)) ∧ Below w.heap.size w w' := by
 have T8 := h_ (tmod_iff imm 8)
 have T4 := h_ (tmod_iff kind 4)
 rcases opB_cases h with rfl | rfl | rfl | rfl | rfl | rfl | rfl | rfl | rfl | rfl | rfl | rfl | rfl | rfl | rfl | rfl | rfl | rfl | rfl | rfl | rfl | rfl | rfl
 all_goals (
  clear h
  go_enter Tryz.func142, Tryz.ntmps142
  go_wp2_with (first | (go_at_call 153; refine (low_any _ _ _ (by decide)).mono ?_; rintro e w' ⟨rfl, rfl⟩) | (go_at_call 154; refine (fits_any _ _ _ (by decide)).mono ?_; rintro e w' ⟨rfl, rfl⟩) | (go_at_call 155; refine (ibar_any _ _).mono ?_; rintro e w' ⟨rfl, rfl⟩))
  all_goals go_ret
  all_goals (
   refine ⟨ret_bool (num_iff ?_), bl_ (Below.refl _ _) _⟩
   simp [inB, barB, lowT, fitsL, fitsH, rightC, rightD] at *
   all_goals (
    have t8 := T8.out
    have t4 := T4.out
    try omega)))
end
section
open Go.RowKit
def rightN (op d n m imm kind : Int) : Int := if rightP op d n m imm kind then 0 else 30
abbrev instrL (op d n m imm kind : Int) : List Value := [.int .i64 op, .int .i64 d, .int .i64 n, .int .i64 m, .int .i64 imm, .int .i64 kind]
theorem own_instr (w : World) (op d n m imm kind : Int) : Blk (w.alloc (.cells #[.int .i64 op, .int .i64 d, .int .i64 n, .int .i64 m, .int .i64 imm, .int .i64 kind] 91)) 91 w.heap.size (instrL op d n m imm kind) := Blk.new w _ (instrL op d n m imm kind)
theorem blk_instr {w : World} {g : Nat} {op d n m imm kind : Int} (h : Blk w 91 g (instrL op d n m imm kind)) : w.cell? ⟨g, 0, none⟩ = some (.int .i64 op) ∧ w.cell? ⟨g, 1, none⟩ = some (.int .i64 d) ∧ w.cell? ⟨g, 2, none⟩ = some (.int .i64 n) ∧ w.cell? ⟨g, 3, none⟩ = some (.int .i64 m) ∧ w.cell? ⟨g, 4, none⟩ = some (.int .i64 imm) ∧ w.cell? ⟨g, 5, none⟩ = some (.int .i64 kind) :=
 ⟨h.cell 0, h.cell 1, h.cell 2, h.cell 3, h.cell 4, h.cell 5⟩
theorem iright_yes (op d n m imm kind : Int) (w : World) (h : opB op = true) :
  Calls Tryz.prog 104 #[instrW op d n m imm kind] w fun e w' => e = .returned (.int .i64 (rightN op d n m imm kind)) ∧ Below w.heap.size w w' := by
 obtain ⟨a, b, c, d', e', hs⟩ : ∃ a b c d' e', shp op = (a, b, c, d', e') := ⟨_, _, _, _, _, rfl⟩
 have H30 := h_ (fun (h : ¬ rightP op d n m imm kind) => show rightN op d n m imm kind = 30 from if_neg h)
 have H0 := h_ (fun (h : rightP op d n m imm kind) => show rightN op d n m imm kind = 0 from if_pos h)
 generalize rightN op d n m imm kind = R at *
 have HB := h_ (bl_ (Below.refl w.heap.size w) (.cells #[.int .i64 op, .int .i64 d, .int .i64 n, .int .i64 m, .int .i64 imm, .int .i64 kind] 91))
 have HN := h_ (own_instr w op d n m imm kind)
 go_enter Tryz.func104, Tryz.ntmps104
 go_wp2_with fail
 refine (iparts_all op _ h a b c d' e' hs).mono ?_
 rintro e w2 ⟨rfl, hb⟩
 have HB2 := h_ (bt_ HB.out hb)
 have hlt := (HN.out.below hb).lt
 obtain ⟨n0, n1, n2, n3, n4, n5⟩ := blk_instr (HN.out.below hb)
 clear hb HN HB
 rcases opB_cases h with rfl | rfl | rfl | rfl | rfl | rfl | rfl | rfl | rfl | rfl | rfl | rfl | rfl | rfl | rfl | rfl | rfl | rfl | rfl | rfl | rfl | rfl | rfl
 all_goals (
  clear h
  simp [shp] at hs
  obtain ⟨rfl, rfl, rfl, rfl, rfl⟩ := hs
  go_wp2_with (first | (go_at_call 141; refine (ireg_any _ _).mono ?_; rintro e w' ⟨rfl, rfl⟩) | (go_at_call 142; refine (inum_any _ _ _ _ _ _ _ (by decide)).mono ?_; rintro e w3 ⟨rfl, hb3⟩))
  all_goals go_ret
  all_goals clear n0 n1 n2 n3 n4 n5 hlt
  all_goals first
   | (refine ⟨Eq.trans (b := .returned (.int .i64 30)) rfl ?_, by first | exact bl_ HB2.out _ | exact bt_ (bl_ HB2.out _) (by assumption)⟩
      rw [H30.out ?_]
      clear H30 H0 HB2
      simp [inB, numI, rightP, rightA, rightB, rightC, rightD] at *
      try omega)
   | (refine ⟨Eq.trans (b := .returned (.int .i64 0)) rfl ?_, by first | exact bl_ HB2.out _ | exact bt_ (bl_ HB2.out _) (by assumption)⟩
      rw [H0.out ?_]
      clear H30 H0 HB2
      simp [inB, numI, rightP, rightA, rightB, rightC, rightD] at *
      try omega))
theorem iright_no (op d n m imm kind : Int) (w : World) (h : opB op = false) :
  Calls Tryz.prog 104 #[instrW op d n m imm kind] w fun e w' => e = .returned (.int .i64 (rightN op d n m imm kind)) ∧ Below w.heap.size w w' := by
 have H30 := h_ (fun (h : ¬ rightP op d n m imm kind) => show rightN op d n m imm kind = 30 from if_neg h)
 have H0 := h_ (fun (h : rightP op d n m imm kind) => show rightN op d n m imm kind = 0 from if_pos h)
 generalize rightN op d n m imm kind = R at *
 have HB := h_ (bl_ (Below.refl w.heap.size w) (.cells #[.int .i64 op, .int .i64 d, .int .i64 n, .int .i64 m, .int .i64 imm, .int .i64 kind] 91))
 have HN := h_ (own_instr w op d n m imm kind)
 go_enter Tryz.func104, Tryz.ntmps104
 go_wp2_with fail
 refine (iparts_no _ _ h).mono ?_
 rintro e w2 ⟨rfl, hb⟩
 have HB2 := h_ (bt_ HB.out hb)
 have hlt := (HN.out.below hb).lt
 obtain ⟨n0, n1, n2, n3, n4, n5⟩ := blk_instr (HN.out.below hb)
 clear hb HN HB
 have HF := h_ (H30.out (fun hp => (of_decide_eq_false h) hp.1.1))
 go_wp2_with fail
 go_ret
 exact ⟨by rw [HF.out]; rfl, bl_ HB2.out _⟩
theorem iright_any (op d n m imm kind : Int) (w : World) :
  Calls Tryz.prog 104 #[instrW op d n m imm kind] w fun e w' => e = .returned (.int .i64 (rightN op d n m imm kind)) ∧ Below w.heap.size w w' := by
 cases h : opB op
 ·exact iright_no op d n m imm kind w h
 ·exact iright_yes op d n m imm kind w h
end
end Go.Proofs.YtmnojnopejhebaaGreat
