/- strings.IndexAny at the bytes that part a text's words: at any bytes. -/
import Derived.Test.YtcaifejfkpmeeaaGreatMgaa
import Derived.Test.YtcaifejfkpmeeaaGreatMgac
import Derived.Test.YtcaifejfkpmeeaaGreatMgad
import Derived.Test.YtcaifejfkpmeeaaGreatMgaj
import Derived.Test.YtcaifejfkpmeeaaGreatMgak
import Derived.Test.YtcaifejfkpmeeaaGreatRows
import Derived.Shelf.Strings.IndexAnyAll
import Derived.Laws.RangeAny
import Derived.Laws.Runes
import Derived.Lib.OthersKept
namespace Go.Proofs.YtcaifejfkpmeeaaGreat
open Go.RowKit
set_option linter.unusedVariables false

theorem el_row : El Tryz.prog 57 60 (.agg #[.string ⟨#[]⟩, .int .i64 0]) 2 24 := ⟨Tryz.underlying57, by kernel_rfl⟩
/-- The cells of lines. -/
def rowCells (s : ByteArray) (l : List (Nat × Nat)) : List Value := l.flatMap fun r => [.string (s.extract r.1 r.2), .int .i64 (r.1 : Nat)]
theorem rowCells_snoc (s : ByteArray) (l : List (Nat × Nat)) (a e : Nat) : rowCells s (l ++ [(a, e)]) = rowCells s l ++ [.string (s.extract a e), .int .i64 (a : Nat)] := by simp [rowCells]
theorem rowCells_len (s : ByteArray) (l : List (Nat × Nat)) : (rowCells s l).length = l.length * 2 := by
  induction l with
  | nil => rfl
  | cons r l ih => rw [rowCells, List.flatMap_cons, List.length_append]; show 2 + (rowCells s l).length = _; rw [ih]; simp; omega
theorem extract_empty {s : ByteArray} {a e : Nat} (h : ¬ a < e) : s.extract a e = ByteArray.empty := by
  apply ByteArray.ext; simp; omega

def RowsInv (s : ByteArray) (w : World) (k : Nat) (f : Nat) (v : Value) (acc : List (Nat × Nat)) (wr : World) : Prop :=
  f ≤ k ∧ acc.length ≤ f ∧ scan (nlB s) s.size k = scan (nlB s) s.size f ∧ rowsF s f acc = rowsF s 0 [] ∧ wr.ownsRow w.heap.size 60 2 v acc.length (rowCells s acc) ∧ Below w.heap.size w wr

theorem rowsInv_below {s : ByteArray} {w : World} {k f : Nat} {v : Value} {acc : List (Nat × Nat)} {wr w2 : World} (h : RowsInv s w k f v acc wr) (hb : Below wr.heap.size wr w2) : RowsInv s w k f v acc w2 := by
  obtain ⟨h1, h2, h3, h4, h5, h6⟩ := h
  exact ⟨h1, h2, h3, h4, own_below h5 hb, below_trans h6 hb⟩
theorem rowsInv_end {s : ByteArray} {w : World} {k f : Nat} {v : Value} {acc : List (Nat × Nat)} {wr : World} (hk : s.size < k) (h : RowsInv s w k f v acc wr) : wr.ownsRow w.heap.size 60 2 v (rowsF s 0 []).length (rowCells s (rowsF s 0 [])) ∧ Below w.heap.size w wr := by
  obtain ⟨h1, h2, h3, h4, h5, h6⟩ := h
  have hf : ¬ f ≤ s.size := by
    intro hf
    have := (scan_ge (nlB s) s.size _ f rfl).2 hf
    rw [← h3, scan_stop (by omega)] at this
    omega
  rw [rowsF_end hf] at h4
  rw [← h4]; exact ⟨h5, h6⟩
theorem rowsInv_skip {s : ByteArray} {w : World} {k f : Nat} {v : Value} {acc : List (Nat × Nat)} {wr : World} (h : RowsInv s w k f v acc wr) (hs : scan (nlB s) s.size k = k) (hab : ¬ headF s f k < tailF s f k) : RowsInv s w (k + 1) (k + 1) v acc wr := by
  obtain ⟨h1, h2, h3, h4, h5, h6⟩ := h
  refine ⟨Nat.le_refl _, by omega, rfl, ?_, h5, h6⟩
  by_cases hf : f ≤ s.size
  · rw [← h4, rowsF_step (f := f) hf, ← h3, hs, if_neg hab]
  · rw [← h4, rowsF_end hf, rowsF_end (by omega)]
theorem rowsInv_add {s : ByteArray} {w : World} {k f : Nat} {v v' : Value} {acc : List (Nat × Nat)} {wr w' : World} (h : RowsInv s w k f v acc wr) (hs : scan (nlB s) s.size k = k) (hab : headF s f k < tailF s f k)
    (ho : w'.ownsRow w.heap.size 60 2 v' (acc.length + 1) (rowCells s acc ++ [.string (s.extract (headF s f k) (tailF s f k)), .int .i64 (headF s f k : Nat)])) (hb : Below w.heap.size wr w') : RowsInv s w (k + 1) (k + 1) v' (acc ++ [(headF s f k, tailF s f k)]) w' := by
  obtain ⟨h1, h2, h3, h4, h5, h6⟩ := h
  have hfs : f ≤ s.size ∨ s.size < f := by omega
  refine ⟨Nat.le_refl _, by simp; omega, rfl, ?_, by rw [rowCells_snoc, List.length_append]; exact ho, h6.trans hb⟩
  rcases hfs with hf | hf
  · rw [← h4, rowsF_step (f := f) hf, ← h3, hs, if_pos hab]
  · exfalso
    rw [scan_stop (i := f) (by omega), hs] at h3
    subst h3
    have := tailF_bd s k k (Nat.le_refl _)
    have := headF_bd s k k (Nat.le_refl _)
    omega
theorem empty_isEmpty : ByteArray.empty.toList.isEmpty = true := by rw [toList_ba]; rfl
theorem extract_some {k : Nat} {s : ByteArray} {a b : Nat} (h : a < b) (h1 : b ≤ k) (h2 : k ≤ s.size) : (s.extract a b).toList.isEmpty = false := by
  rw [toList_ba]
  have : 0 < (s.extract a b).data.toList.length := by simp; omega
  cases hl : (s.extract a b).data.toList with
  | nil => rw [hl] at this; simp at this
  | cons x l => rfl
theorem rowsInv_on {s : ByteArray} {w : World} {k f : Nat} {v : Value} {acc : List (Nat × Nat)} {wr : World} (hlt : k < s.size) (h10 : ((s[k].toNat : Int) == 10) = false) (h : RowsInv s w k f v acc wr) : RowsInv s w (k + 1) f v acc wr := by
  obtain ⟨h1, h2, h3, h4⟩ := h
  exact ⟨by omega, h2, by rw [← h3]; exact (scan_miss hlt (by unfold nlB; rw [bt_eq hlt]; exact h10)).symm, h4⟩

set_option maxRecDepth 100000 in
set_option maxHeartbeats 4000000 in
theorem rows_any (s : ByteArray) (w : World) (hs : s.size ≤ 140737488351232) (hs2 : s.size * 24 ≤ 140737488351232) :
    Calls Tryz.prog 12 #[.string s] w fun e w' => ∃ v, e = .returned v ∧ w'.ownsRow w.heap.size 60 2 v (rowsF s 0 []).length (rowCells s (rowsF s 0 [])) ∧ Below w.heap.size w w' := by
  have H0 := Lib.hid (show RowsInv s w 0 0 (.slice none 0 0) [] w from ⟨Nat.le_refl _, Nat.le_refl _, rfl, rfl, World.ownsRow_nil _ _ _ _, Below.refl _ _⟩)
  go_enter Tryz.func12, Tryz.ntmps12
  go_wp2_with fail
  go_loopw [3, 4, 5] (fun v f i wr => ∃ (k f' : Nat) (acc : List (Nat × Nat)), k ≤ s.size + 1 ∧ i = .int .i64 k ∧ f = .int .i64 f' ∧ RowsInv s w k f' v acc wr) (fun _ _ i _ => s.size + 1 - (intOf i).toNat)
  case atStart => exact ⟨0, 0, [], by omega, rfl, rfl, H0.out⟩
  case round =>
    obtain ⟨k, f', acc, hk, rfl, rfl, hI⟩ := hrel
    have HI := Lib.hid hI
    have HFK := Lib.hid hI.1
    clear hI
    by_cases hle : k ≤ s.size
    · by_cases hlt : k < s.size
      · cases h10 : ((s[k].toNat : Int) == 10)
        · have n10 : ((s[k].toNat : Int) != 10) = true := by simp only [bne, h10, Bool.not_false]
          go_wp2_with fail
          go_roundw
          case rel => exact ⟨k + 1, f', acc, by omega, by go_num, rfl, rowsInv_on hlt h10 HI.out⟩
          case measure => simp [intOf] <;> omega
        · have n10 : ((s[k].toNat : Int) != 10) = false := by simp only [bne, h10, Bool.not_true]
          have HST := Lib.hid (show scan (nlB s) s.size k = k from scan_hit hlt (by unfold nlB; rw [bt_eq hlt]; exact h10))
          go_wp2_with fail
          refine (trim_any s f' k _ hs HFK.out hle).mono ?_
          rintro e w2 ⟨rfl, hb2⟩
          have HI2 := Lib.hid (rowsInv_below HI.out hb2)
          clear hb2 HI
          by_cases hab : headF s f' k < tailF s f' k
          · have HIN := Lib.hid (fun v' w' => rowsInv_add (v' := v') (w' := w') HI2.out HST.out hab)
            have hemp : (s.extract (headF s f' k) (tailF s f' k)).toList.isEmpty = false := extract_some hab (tailF_bd s f' k HFK.out).2 hle
            have hacc : acc.length ≤ s.size := by have := HI2.out; have := HFK.out; have := HI2.out.2.1; omega
            generalize headF s f' k = a at *
            generalize tailF s f' k = b at *
            clear hab
            obtain ⟨p, c, rfl, _⟩ := own_form HI2.out.2.2.2.2.1
            have HO := Lib.hid HI2.out.2.2.2.2.1
            have HZ := Lib.hid HI2.out.2.2.2.2.2.size
            clear HI2
            go_wp2_with (at_builtin; refine app1s rfl _ _ 57 rfl w.heap.size 60 _ 2 24 el_row rfl (by decide) _ _ _ rfl (HO.out.alloc _) [.string (s.extract a b), .int .i64 a] rfl _ rfl (by simp) (by simp [Value.oneCell']) ?c1 ?c2 ?c3 ?_)
            case c1 => unfold maxLen; omega
            case c2 => omega
            case c3 => simp; have := HZ.out; omega
            intro v' w' ho' _ hb'
            have HIF := Lib.hid (HIN.out v' w' ho' (((Below.refl _ _).alloc HZ.out _).trans hb'))
            clear ho' hb' HO HIN HZ
            go_wp2
            go_roundw
            case rel => exact ⟨k + 1, k + 1, _, by omega, by go_num, rfl, HIF.out⟩
            case measure => simp [intOf] <;> omega
          · have hemp : (s.extract (headF s f' k) (tailF s f' k)).toList.isEmpty = true := by rw [extract_empty hab]; exact empty_isEmpty
            have HIF := Lib.hid (rowsInv_skip HI2.out HST.out hab)
            generalize headF s f' k = a at *
            generalize tailF s f' k = b at *
            clear hab HI2
            go_wp2
            go_roundw
            case rel => exact ⟨k + 1, k + 1, _, by omega, by go_num, rfl, rowsInv_below HIF.out (below_alloc (Below.refl _ _) _)⟩
            case measure => simp [intOf] <;> omega
      · obtain rfl : k = s.size := by omega
        have HST := Lib.hid (show scan (nlB s) s.size s.size = s.size from scan_stop (by omega))
        go_wp2_with fail
        refine (trim_any s f' s.size _ hs HFK.out hle).mono ?_
        rintro e w2 ⟨rfl, hb2⟩
        have HI2 := Lib.hid (rowsInv_below HI.out hb2)
        clear hb2 HI
        by_cases hab : headF s f' s.size < tailF s f' s.size
        · have HIN := Lib.hid (fun v' w' => rowsInv_add (v' := v') (w' := w') HI2.out HST.out hab)
          have hemp : (s.extract (headF s f' s.size) (tailF s f' s.size)).toList.isEmpty = false := extract_some hab (tailF_bd s f' s.size HFK.out).2 hle
          have hacc : acc.length ≤ s.size := by have := HI2.out; have := HFK.out; have := HI2.out.2.1; omega
          generalize headF s f' s.size = a at *
          generalize tailF s f' s.size = b at *
          clear hab
          obtain ⟨p, c, rfl, _⟩ := own_form HI2.out.2.2.2.2.1
          have HO := Lib.hid HI2.out.2.2.2.2.1
          have HZ := Lib.hid HI2.out.2.2.2.2.2.size
          clear HI2
          go_wp2_with (at_builtin; refine app1s rfl _ _ 57 rfl w.heap.size 60 _ 2 24 el_row rfl (by decide) _ _ _ rfl (HO.out.alloc _) [.string (s.extract a b), .int .i64 a] rfl _ rfl (by simp) (by simp [Value.oneCell']) ?c1 ?c2 ?c3 ?_)
          case c1 => unfold maxLen; omega
          case c2 => omega
          case c3 => simp; have := HZ.out; omega
          intro v' w' ho' _ hb'
          have HIF := Lib.hid (HIN.out v' w' ho' (((Below.refl _ _).alloc HZ.out _).trans hb'))
          clear ho' hb' HO HIN HZ
          go_wp2
          go_roundw
          case rel => exact ⟨s.size + 1, s.size + 1, _, by omega, by go_num, rfl, HIF.out⟩
          case measure => simp [intOf] <;> omega
        · have hemp : (s.extract (headF s f' s.size) (tailF s f' s.size)).toList.isEmpty = true := by rw [extract_empty hab]; exact empty_isEmpty
          have HIF := Lib.hid (rowsInv_skip HI2.out HST.out hab)
          generalize headF s f' s.size = a at *
          generalize tailF s f' s.size = b at *
          clear hab HI2
          go_wp2
          go_roundw
          case rel => exact ⟨s.size + 1, s.size + 1, _, by omega, by go_num, rfl, rowsInv_below HIF.out (below_alloc (Below.refl _ _) _)⟩
          case measure => simp [intOf] <;> omega
    · have HE := Lib.hid (rowsInv_end (by omega) HI.out)
      obtain ⟨h2, h3⟩ := HE.out
      have HO := Lib.hid h2
      have HB := Lib.hid h3
      clear h2 h3 HE HI
      go_wp2
      go_ret
      exact ⟨_, rfl, HO.out, HB.out⟩
end Go.Proofs.YtcaifejfkpmeeaaGreat
namespace Go.Proofs.YtcaifejfkpmeeaaGreat
open Go.RowKit
set_option linter.unusedVariables false
set_option linter.unusedSimpArgs false

structure CoreA where
  regs : List Nat
  space : Nat
  table : Nat
  code : List Ins
  hand : List Ins
/-- A test as it is read: with its tables, and where its parts stand. -/
structure SrcA where
  name : ByteArray
  cells : List (Nat × Nat)
  cores : List CoreA
  fa : Bool
  cond : CT
  tables : List Nat
  pT : List Int
  pC : List Int
  pCo : List Int
  pI : List (List Int)
  pCond : Int
  after : Nat
def src0 : SrcA := ⟨⟨#[]⟩, [], [], false, cF, [], [], [], [], [], 0, 0⟩
def wTest : ByteArray := ⟨#[116, 101, 115, 116]⟩
def wTable : ByteArray := ⟨#[116, 97, 98, 108, 101]⟩
def wCell : ByteArray := ⟨#[99, 101, 108, 108]⟩
def wCore : ByteArray := ⟨#[99, 111, 114, 101]⟩
def wReg : ByteArray := ⟨#[114, 101, 103]⟩
def wHandler : ByteArray := ⟨#[104, 97, 110, 100, 108, 101, 114]⟩
def wExists : ByteArray := ⟨#[101, 120, 105, 115, 116, 115]⟩
def wForall : ByteArray := ⟨#[102, 111, 114, 97, 108, 108]⟩
def keyB (w : ByteArray) : Bool := decide (w = wTest) || decide (w = wTable) || decide (w = wCell) || decide (w = wCore) || decide (w = wReg) || decide (w = wHandler) || decide (w = wExists) || decide (w = wForall)
/-- A problem at a place, if there was none. -/
def faultR (s : RS) (c at_ : Int) : RS := if s.code = 0 then { s with code := c, at_ := at_ } else s
def wIsR (tk : List Tk) (s : RS) (t : ByteArray) : Bool × RS := (isR tk s 1 t, if isR tk s 1 t then nextR tk s else s)
def shiftD (table : Bool) (level : Nat) : Nat := if level = 1 ∧ table = false then 21 else 12
def flagD (b : Bool) (n : Nat) : Nat := if b then 2 ^ n else 0
def encD (table : Bool) (out : Nat) (used ro user own : Bool) (level : Nat) : Nat × Nat :=
  if 4294967296 ≤ out ∨ ¬ out % 2 ^ shiftD table level = 0 then (0, 70)
  else ((out ||| 1 ||| flagD (table || decide (level = 2)) 1) ||| (((flagD used 10 ||| flagD ro 7) ||| flagD user 6) ||| flagD own 11), 0)
structure FlA where
  used : Bool
  ro : Bool
  user : Bool
  own : Bool
def flagsR (tk : List Tk) (s : RS) : FlA × RS :=
  let a := wIsR tk s ⟨#[117, 110, 117, 115, 101, 100]⟩
  let b := wIsR tk a.2 ⟨#[114, 111]⟩
  let c := wIsR tk b.2 ⟨#[117, 115, 101, 114]⟩
  let d := wIsR tk c.2 ⟨#[111, 119, 110]⟩
  (⟨!a.1, b.1, c.1, d.1⟩, d.2)
def encR (tk : List Tk) (s : RS) (x : Nat × Nat) : Nat × RS := (x.1, if x.2 = 0 then s else failR tk s x.2)
/-- A number, or a descriptor. -/
def litV (tk : List Tk) (s : RS) : Nat × RS :=
  let a := wIsR tk s ⟨#[116, 111]⟩
  if a.1 then
    let n := numberR tk a.2
    encR tk n.2 (encD true n.1 false false false false 1)
  else
    let b := wIsR tk s ⟨#[98, 108, 111, 99, 107]⟩
    if b.1 then
      let n := numberR tk b.2
      let f := flagsR tk n.2
      encR tk f.2 (encD false n.1 f.1.used f.1.ro f.1.user f.1.own 1)
    else
      let c := wIsR tk s ⟨#[112, 97, 103, 101]⟩
      if c.1 then
        let n := numberR tk c.2
        let f := flagsR tk n.2
        encR tk f.2 (encD false n.1 f.1.used f.1.ro f.1.user f.1.own 2)
      else numberR tk s
def testR (tk : List Tk) (x : SrcA) (s : RS) : SrcA × RS := ({ x with name := (peekR tk s).2.1, after := 1 }, nextR tk (if (peekR tk s).1 = 1 then s else failR tk s 110))
def tableR (tk : List Tk) (x : SrcA) (s : RS) (at_ : Int) : SrcA × RS :=
  if x.after = 1 then ({ x with tables := x.tables ++ [(numberR tk s).1], pT := x.pT ++ [at_] }, (numberR tk s).2) else (x, faultR s 110 at_)
def cellR (tk : List Tk) (x : SrcA) (s : RS) (at_ : Int) : SrcA × RS :=
  if x.after = 1 then
    let a := numberR tk s
    let v := litV tk (mustR tk a.2 3 ⟨#[61]⟩)
    ({ x with cells := x.cells ++ [(a.1, v.1)], pC := x.pC ++ [at_] }, v.2)
  else (x, faultR s 110 at_)
def coreR (tk : List Tk) (x : SrcA) (s : RS) (at_ : Int) : SrcA × RS :=
  let a := smallR tk s 65536
  let s1 := if a.1 = x.cores.length then a.2 else faultR a.2 110 at_
  let b := wIsR tk s1 ⟨#[115, 112, 97, 99, 101]⟩
  let c := if b.1 then smallR tk b.2 65536 else (0, b.2)
  let d := numberR tk (mustR tk c.2 1 wTable)
  ({ x with cores := x.cores ++ [⟨List.replicate 31 0, c.1, d.1, [], []⟩], pCo := x.pCo ++ [at_], pI := x.pI ++ [[]], after := 2 }, d.2)
/-- The core that was begun last, turned. -/
def lastF (x : SrcA) (f : CoreA → CoreA) : SrcA := match x.cores.getLast? with | none => x | some c => { x with cores := x.cores.dropLast ++ [f c] }
def regOk (tk : List Tk) (x : SrcA) (s : RS) : Bool :=
  decide ((peekR tk s).1 = 1) && (match regN (peekR tk s).2.1 with | some j => decide (¬ j = 31) | none => false) && (match x.cores.getLast? with | some c => c.code.isEmpty | none => false) && decide (x.after = 2)
def regR' (tk : List Tk) (x : SrcA) (s : RS) : SrcA × RS :=
  if regOk tk x s then
    let v := litV tk (mustR tk (nextR tk s) 3 ⟨#[61]⟩)
    (lastF x fun c => { c with regs := c.regs.set ((regN (peekR tk s).2.1).getD 0) v.1 }, v.2)
  else (x, failR tk s 110)
def handR (x : SrcA) (s : RS) (at_ : Int) : SrcA × RS := ({ x with after := 3 }, if x.after = 2 then s else faultR s 110 at_)
def condR (tk : List Tk) (x : SrcA) (s : RS) (fa : Bool) (at_ : Int) : SrcA × RS := ({ x with fa := fa, cond := (parseC tk s).1, pCond := at_, after := 4 }, (parseC tk s).2)
/-- A place appended to the last list. -/
def lastP (l : List (List Int)) (at_ : Int) : List (List Int) := match l.getLast? with | none => l | some q => l.dropLast ++ [q ++ [at_]]
def insR (x : SrcA) (t : ByteArray) (at_ : Int) : SrcA × Int × Int :=
  match x.cores.getLast? with
  | none => (x, 110, at_)
  | some c =>
    let i := parseA t.data.toList
    if i.2 = 0 then ({ lastF x (fun c => if x.after = 2 then { c with code := c.code ++ [i.1] } else { c with hand := c.hand ++ [i.1] }) with pI := lastP x.pI at_ }, 0, 0)
    else (x, i.2, at_)
def switchR (tk : List Tk) (x : SrcA) (s : RS) (w : ByteArray) (at_ : Int) : SrcA × RS :=
  if w = wTest then testR tk x s
  else if w = wTable then tableR tk x s at_
  else if w = wCell then cellR tk x s at_
  else if w = wCore then coreR tk x s at_
  else if w = wReg then regR' tk x s
  else if w = wHandler then handR x s at_
  else condR tk x s (decide (w = wForall)) at_
/-- A line. -/
def rowA (x : SrcA) (t : ByteArray) (at_ : Nat) : SrcA × Int × Int :=
  let w := t.extract 0 (wordE t 0)
  if x.after = 4 ∨ ¬ (decide (x.after = 0) = decide (w = wTest)) then (x, 110, at_)
  else if keyB w = false then insR x t at_
  else if ¬ (toksF t 0 []).2.1 = 0 then (x, (((toksF t 0 []).2.1 : Nat) : Int), toksAt at_ (toksF t 0 []))
  else
    let tk := tkOf t at_ (toksF t 0 []).1
    let y := switchR tk x (nextR tk ⟨0, 0, 0⟩) w at_
    (y.1, (endR tk y.2).code, (endR tk y.2).at_)
def rowsA (s : ByteArray) : SrcA → List (Nat × Nat) → SrcA × Int × Int
  | x, [] => if x.after = 4 then (x, 0, 0) else (src0, 110, s.size)
  | x, r :: l =>
    let y := rowA x (s.extract r.1 r.2) r.1
    if y.2.1 = 0 then rowsA s y.1 l else (src0, y.2)
/-- A text's test, its first fault and where it is. -/
def litA (s : ByteArray) : SrcA × Int × Int :=
  if (checkZ s).1 = 0 then rowsA s src0 (rowsF s 0 []) else (src0, checkZ s)
def litEx : ByteArray := ⟨#[116, 101, 115, 116, 32, 97, 10, 116, 97, 98, 108, 101, 32, 48, 120, 49, 48, 48, 48, 10, 99, 101, 108, 108, 32, 48, 120, 49, 48, 48, 48, 32, 61, 32, 116, 111, 32, 48, 120, 50, 48, 48, 48, 10, 99, 111, 114, 101, 32, 48, 32, 116, 97, 98, 108, 101, 32, 48, 120, 49, 48, 48, 48, 10, 114, 101, 103, 32, 88, 49, 32, 61, 32, 48, 120, 49, 48, 10, 76, 68, 82, 32, 88, 48, 44, 91, 88, 49, 93, 10, 101, 120, 105, 115, 116, 115, 32, 48, 58, 88, 48, 61, 49, 10]⟩
/-- What the page's example asks of a source. -/
def exOk (y : SrcA × Int × Int) : Bool := decide (y.2.1 = 0) && decide (y.1.name = ⟨#[97]⟩) && (match y.1.cores with | [c] => decide (c.code.length = 1) | _ => false) && decide (y.1.tables.length = 1) && (match y.1.cells with | (_, v) :: _ => decide (v = 8195) | _ => false)
theorem litEx_ok : exOk (litA litEx) = true := by kernel_rfl
end Go.Proofs.YtcaifejfkpmeeaaGreat
namespace Go.Proofs.YtcaifejfkpmeeaaGreat
open Go.Shelf

def lays153_ren : Ren := ⟨fun | 153 => 60 | 152 => 83 | 226 => 84 | 227 => 85 | 228 => 86 | 137 => 101 | 119 => 102 | 224 => 103 | 225 => 104 | 217 => 109 | 266 => 110 | n => n, fun | 9 => 9 | 3 => 3 | 4 => 4 | 5 => 5 | 21 => 21 | 117 => 137 | 116 => 136 | 0 => 0 | 46 => 149 | 124 => 150 | n => n, fun n => n⟩
theorem lays153 : Lays.n153 Tryz.prog lays153_ren := {
  mixed := by kernel_rfl,
  f119 := by kernel_rfl,
  f137 := by kernel_rfl,
  f152 := by kernel_rfl,
  f153 := by kernel_rfl,
  f217 := by kernel_rfl,
  f224 := by kernel_rfl,
  f225 := by kernel_rfl,
  f226 := by kernel_rfl,
  f227 := by kernel_rfl,
  f228 := by kernel_rfl,
  f266 := by kernel_rfl,
  t0 := by kernel_rfl,
  a0 := fun _ => by kernel_rfl,
  z0 := fun _ => by kernel_rfl,
  v0 := fun _ => by kernel_rfl,
  t3 := by kernel_rfl,
  a3 := fun _ => by kernel_rfl,
  z3 := fun _ => by kernel_rfl,
  v3 := fun _ => by kernel_rfl,
  t4 := by kernel_rfl,
  a4 := fun _ => by kernel_rfl,
  z4 := fun _ => by kernel_rfl,
  v4 := fun _ => by kernel_rfl,
  t5 := by kernel_rfl,
  a5 := fun _ => by kernel_rfl,
  z5 := fun _ => by kernel_rfl,
  v5 := fun _ => by kernel_rfl,
  t9 := by kernel_rfl,
  a9 := fun _ => by kernel_rfl,
  z9 := fun _ => by kernel_rfl,
  v9 := fun _ => by kernel_rfl,
  t21 := by kernel_rfl,
  a21 := fun _ => by kernel_rfl,
  z21 := fun _ => by kernel_rfl,
  v21 := fun _ => by kernel_rfl,
  t46 := by kernel_rfl,
  a46 := fun _ => by kernel_rfl,
  z46 := fun _ => by kernel_rfl,
  v46 := fun _ => by kernel_rfl,
  t116 := by kernel_rfl,
  a116 := fun _ => by kernel_rfl,
  z116 := fun _ => by kernel_rfl,
  t117 := by kernel_rfl,
  a117 := fun _ => by kernel_rfl,
  z117 := fun _ => by kernel_rfl,
  v117 := fun _ => by kernel_rfl,
  t124 := by kernel_rfl,
  a124 := fun _ => by kernel_rfl,
  z124 := fun _ => by kernel_rfl,
  v124 := fun _ => by kernel_rfl }
theorem set153 : (Tryz.prog.info? (lays153_ren.t 116)).map (fun i => (i.zero, i.size)) = some (some (.agg (Array.replicate 256 (.bool false))), 256) := by kernel_rfl
end Go.Proofs.YtcaifejfkpmeeaaGreat
namespace Go.Proofs.YtcaifejfkpmeeaaGreat
open Go.RowKit Go.Shelf
set_option linter.unusedVariables false
set_option linter.unusedSimpArgs false

/-- The bytes that part words: a blank, a tab, the three signs. -/
def sepL : List UInt8 := [32, 9, 44, 91, 93]
def sepB : ByteArray := ⟨#[32, 9, 44, 91, 93]⟩
/-- What a rune of more than one byte goes past are bytes above 127. -/
theorem decode_past (s : ByteArray) (i : Nat) (h : i < s.size) (ha : 128 ≤ (s[i]'h).toNat) : i + (Utf8.decode s i).2 ≤ s.size ∧ ∀ k, i ≤ k → k < i + (Utf8.decode s i).2 → 128 ≤ (s.get! k).toNat := by
  have hn : ¬ (s[i]'h).toNat < 128 := by omega
  have h0 : 128 ≤ (s.get! i).toNat := by
    have := get_at s i h
    rw [Nat.add_zero] at this
    rw [this]; exact ha
  simp only [Utf8.decode, get_at s i h, hn, if_false]
  have one : i + 1 ≤ s.size ∧ ∀ k, i ≤ k → k < i + 1 → 128 ≤ (s.get! k).toNat := ⟨h, fun k h1 h2 => by
    obtain rfl : k = i := by omega
    exact h0⟩
  split
  · rename_i h1
    simp only [Bool.and_eq_true, decide_eq_true_eq, beq_iff_eq] at h1
    split
    · refine ⟨by simp only; omega, fun k h3 h4 => ?_⟩
      simp only at h4
      by_cases e : k = i
      · subst e; exact h0
      · obtain rfl : k = i + 1 := by omega
        omega
    · exact one
  · split
    · rename_i h1
      simp only [Bool.and_eq_true, decide_eq_true_eq, beq_iff_eq] at h1
      split
      · refine ⟨by simp only; omega, fun k h3 h4 => ?_⟩
        simp only at h4
        by_cases e : k = i
        · subst e; exact h0
        · by_cases e2 : k = i + 1
          · subst e2; omega
          · obtain rfl : k = i + 2 := by omega
            omega
      · exact one
    · split
      · rename_i h1
        simp only [Bool.and_eq_true, decide_eq_true_eq, beq_iff_eq] at h1
        split
        · refine ⟨by simp only; omega, fun k h3 h4 => ?_⟩
          simp only at h4
          by_cases e : k = i
          · subst e; exact h0
          · by_cases e2 : k = i + 1
            · subst e2; omega
            · by_cases e3 : k = i + 2
              · subst e3; omega
              · obtain rfl : k = i + 3 := by omega
                omega
        · exact one
      · exact one
theorem noAny_past {s : ByteArray} {i : Nat} (h : i < s.size) (ha : 128 ≤ (s[i]'h).toNat) (hno : Lib.NoAny s.data.toList sepL i) : Lib.NoAny s.data.toList sepL (i + (Utf8.decode s i).2) := by
  obtain ⟨h1, h2⟩ := decode_past s i h ha
  intro j b hj hb
  by_cases hji : j < i
  · exact hno j b hji hb
  · have h3 := h2 j (by omega) hj
    have hjs : j < s.size := by omega
    have e : s.get! j = b := by
      have := get_at s j hjs
      rw [Nat.add_zero] at this
      rw [this]
      have h4 := Lib.data_getElem? s j hjs
      rw [hb] at h4
      injection h4 with h4
      exact h4.symm
    rw [e] at h3
    have : ∀ c : UInt8, 128 ≤ c.toNat → sepL.contains c = false := by
      intro c hc
      unfold sepL
      rw [List.contains_eq_any_beq]
      simp only [List.any_cons, List.any_nil, Bool.or_false, Bool.or_eq_false_iff, beq_eq_false_iff_ne, ne_eq]
      refine ⟨?_, ?_, ?_, ?_, ?_⟩ <;> (rintro rfl; simp at hc)
    exact this b h3

theorem sep_at : ∀ i (h : i < sepB.size), (sepB[i]'h).toNat < 128 ∧ ((sepB[i]'h).toNat : Int) ≠ 65533 := by decide
theorem sep_all : ∀ b ∈ sepB.data.toList, b.toNat < 128 := by decide
/-- A byte above 127 is not in a text of bytes below. -/
theorem ixb_no (t : ByteArray) (c : UInt8) (w : World) (ht : ∀ b ∈ t.data.toList, b.toNat < 128) (hc : 128 ≤ c.toNat) :
    Calls Tryz.prog 101 #[.string t, .int .u8 c.toNat] w fun e w' => e = .returned (.int .i64 (-1)) ∧ ∃ m, w' = w.drewN m := by
  refine (Any.strings_IndexByte (P := Tryz.prog) { lays153 with } t (c.toNat : Int) w).mono ?_
  rintro e w' ⟨rfl, rfl⟩
  refine ⟨?_, 0, rfl⟩
  have hb : ((c.toNat : Int)).toNat.toUInt8 = c := by simp
  rw [hb]
  have : ∀ l : List UInt8, (∀ b ∈ l, b.toNat < 128) → Lib.indexByte l c = -1 := by
    intro l hl
    induction l with
    | nil => rfl
    | cons b l ih =>
      have h1 := hl b (by simp)
      have hne : ¬ b = c := by rintro rfl; omega
      have := ih (fun x hx => hl x (by simp [hx]))
      simp [Lib.indexByte, hne, this]
  rw [this _ ht]

set_option maxHeartbeats 8000000 in
set_option maxRecDepth 1000000 in
/-- strings.IndexRune(" \t,[]", r) at a rune above 127: none. -/
theorem irune_high (r : Int) (w : World) (h1 : 128 ≤ r) (h2 : r ≤ 2147483647) :
    Calls Tryz.prog 83 #[.string sepB, .int .i32 r] w fun e w' => e = .returned (.int .i64 (-1)) ∧ Below w.heap.size w w' := by
  have hr0 : (0 : Int) ≤ r := by omega
  have hr1 : ¬ r < 128 := by omega
  by_cases he : r = 65533
  · have HB := Lib.hid (fun i : Nat => (Below.refl w.heap.size w).alloc (Nat.le_refl _) (.stringIter sepB i))
    have heb : (r == 65533) = true := beq_iff_eq.2 he
    clear he
    have HS := Lib.hid sep_at
    have hsz : sepB.size = 5 := rfl
    generalize sepB = s at *
    go_enter Tryz.func83, Tryz.ntmps83
    go_wp2_with fail
    go_loopg [5, 6] 5 (fun g _ _ wx => ∃ i : Nat, i + g = 5 ∧ wx = w.iter s i)
    case atStart => exact ⟨0, by omega, rfl⟩
    case round =>
      obtain ⟨i, hig, rfl⟩ := hrel
      cases gk with
      | zero =>
        obtain rfl : i = 5 := by omega
        have hnx := run_next_end (P := Tryz.prog) w s 5
        go_wp2_with fail
        go_ret
        exact ⟨rfl, HB.out 5⟩
      | succ g =>
        have hi : i < s.size := by omega
        obtain ⟨hx128, hxe⟩ := HS.out i hi
        obtain ⟨x, hx⟩ : ∃ x : UInt8, s[i]'hi = x := ⟨_, rfl⟩
        have hnx := fun ty => run_next_ascii (P := Tryz.prog) w s i ty hi hx128
        rw [hx] at hnx hx128 hxe
        have hxe2 : ((x.toNat : Int) == 65533) = false := beq_eq_false_iff_ne.2 hxe
        clear hxe hx
        go_wp2_with fail
        go_roundg g
        case measure => omega
        case rel => exact ⟨i + 1, by omega, rfl⟩
  · have heb : (r == 65533) = false := beq_eq_false_iff_ne.2 he
    clear he
    by_cases hv : (55296 ≤ r ∧ r ≤ 57343) ∨ 1114111 < r
    · have hvr : ∀ w1 : World, Calls Tryz.prog 102 #[.int .i32 r] w1 fun e w' => e = .returned (.bool false) ∧ w1 = w' := fun w1 => by
        have g1 : ¬ r < 55296 := by omega
        by_cases g2 : 57343 < r
        · have g3 : ¬ r ≤ 1114111 := by omega
          go_enter Tryz.func102, Tryz.ntmps102
          go_wp2_with fail
          go_ret
          exact ⟨rfl, rfl⟩
        · go_enter Tryz.func102, Tryz.ntmps102
          go_wp2_with fail
          go_ret
          exact ⟨rfl, rfl⟩
      have HV := Lib.hid hvr
      have hsz : sepB.size = 5 := rfl
      generalize sepB = s at *
      clear hvr hv
      go_enter Tryz.func83, Tryz.ntmps83
      go_wp2_with fail
      refine (HV.out _).mono ?_
      rintro e w' ⟨rfl, rfl⟩
      go_wp2_with fail
      go_ret
      exact ⟨rfl, Below.refl _ _⟩
    · have hvr : ∀ w1 : World, Calls Tryz.prog 102 #[.int .i32 r] w1 fun e w' => e = .returned (.bool true) ∧ w1 = w' := fun w1 => by
        by_cases g1 : r < 55296
        · go_enter Tryz.func102, Tryz.ntmps102
          go_wp2_with fail
          go_ret
          exact ⟨rfl, rfl⟩
        · have g2 : 57343 < r := by omega
          have g3 : r ≤ 1114111 := by omega
          go_enter Tryz.func102, Tryz.ntmps102
          go_wp2_with fail
          go_ret
          exact ⟨rfl, rfl⟩
      have HV := Lib.hid hvr
      have hval : Utf8.valid r = true := by rw [validRune_eq]; unfold validRune; exact decide_eq_true (by omega)
      obtain ⟨q1, q2, q3⟩ := encode_facts r hval h1
      obtain ⟨E, hE⟩ : ∃ E, E = Utf8.encode r := ⟨_, rfl⟩
      rw [← hE] at q1 q2 q3
      have hcv : ∀ wx : World, (convert 21 9 (.int .i32 r)).run Tryz.prog wx = .ok (.string E) wx := fun wx => by rw [hE]; exact run_convert_int_string (P := Tryz.prog) wx 21 9 .i32 r (by rw [Tryz.underlying21]; rfl) Tryz.underlying9
      clear hvr hv hE hval
      obtain ⟨c, hc⟩ : ∃ c, c = E[E.size - 1]'(by omega) := ⟨_, rfl⟩
      have hc1 : 128 ≤ c.toNat := by rw [hc]; exact q3 (by omega)
      have HIB := Lib.hid (fun (t : ByteArray) (w1 : World) => Any.strings_IndexByte { lays153 with } t (c.toNat : Int) w1)
      obtain ⟨n, hn⟩ : ∃ n, E.size = n + 1 := ⟨E.size - 1, by omega⟩
      have hnE : n < E.size := by omega
      have hns : n < sepB.size := by show n < 5; omega
      have hcE : c = E[n]'hnE := by rw [hc]; simp only [hn, Nat.add_sub_cancel]
      have hne : (((sepB[n]'hns).toNat : Int) != ((E[n]'hnE).toNat : Int)) = true := by
        have := (sep_at n hns).1
        rw [← hcE]
        exact bne_iff_ne.2 (by omega)
      have HIB := Lib.hid (fun (wx : World) => ixb_no (sepB.extract (n + 1) sepB.size) (E[n]'hnE) wx (fun b hb => sep_all b (mem_extract hb)) (by rw [← hcE]; exact hc1))
      have hlen : sepB.size = 5 := rfl
      have hn4 : n ≤ 3 := by omega
      have hn1 : 1 ≤ n := by omega
      have hlt : (n : Int) < (sepB.size : Int) := by omega
      have hlt2 : (n : Int) < (E.size : Int) := by omega
      have hn0 : (0 : Int) ≤ (n : Int) := by omega
      have HN := Lib.hid hn
      have hw1 : IntKind.i64.wrap ((E.size : Int) - 1) = n := by rw [hn]; rw [IntWalk.i64_in _ (by omega)]; omega
      have hp1 : IntKind.i64.wrap ((n : Int) + 1) = (n : Int) + 1 := IntWalk.i64_in _ (by omega)
      have hp2 : (0 : Int) ≤ (n : Int) + 1 := by omega
      have hp3 : ((n : Int) + 1).toNat = n + 1 := by omega
      have hp4 : (n : Int) + 1 ≤ (sepB.size : Int) := by omega
      have hw2 : wrap64 ((E.size : Int) - 1) = n := by unfold wrap64; first | exact hw1 | (rw [hn]; omega)
      have hidx : ∀ wx : World, (Instr.index 9 (.string E) (.int .i64 n)).run Tryz.prog wx = .ok (.int .u8 ((E[n]'hnE).toNat : Int)) wx := fun wx => by
        have e1 : (n : Int).toNat = n := by omega
        simp [Instr.index, run_underlying Tryz.underlying9, asIntOf, go_sem, e1, hnE, hn0]
      clear hc hcE hc1 q1 q2 q3 hlen hn
      go_enter Tryz.func83, Tryz.ntmps83
      go_wp2_with fail
      refine (HV.out _).mono ?_
      rintro e w' ⟨rfl, rfl⟩
      go_wp2_with fail
      go_step3
      go_wp2_with fail
      go_loop [9] (fun i => i = .int .i64 n) (fun _ => 0)
      case atStart => rfl
      case round =>
        subst hrel
        go_wp2_with fail
        go_step3
        go_wp2_with fail
        go_quiet (fail)
        go_wp2_with fail
        go_quiet ((go_at_call 101; (first | exact quiet_of (HIB.out _) | exact quiet_add (HIB.out _))))
        go_wp2_with fail
        rw [Exit.noGoto_ret]
        go_wp2_with fail
        rw [Exit.noGoto_ret]
        go_ret
        exact ⟨rfl, below_drewN (Below.refl _ _) _⟩
theorem asciiC : ∀ (j : Nat) b, sepB.data.toList[j]? = some b → b.toNat < 128 := fun j b hb => sep_all b (List.mem_of_getElem? hb)
set_option maxHeartbeats 8000000 in
set_option maxRecDepth 1000000 in
/-- A text of at most 8 bytes. -/
theorem ix_short (s : ByteArray) (w : World) (h8 : s.size ≤ 8) :
    Calls Tryz.prog 60 #[.string s, .string sepB] w fun e w' => e = .returned (.int .i64 (Lib.indexAny s.data.toList sepL)) ∧ Below w.heap.size w w' := by
  have hemp : sepB.toList.isEmpty = false := by kernel_rfl
  have hn1 : ((sepB.size : Int) == 1) = false := rfl
  have h8z : decide ((8 : Int) < (s.size : Int)) = false := decide_eq_false (by omega)
  have HC := Lib.hid (fun (r : Int) (w1 : World) h0 h1 => Any.strings_IndexRune_ascii (P := Tryz.prog) { lays153 with } sepB r w1 h0 h1)
  have HH := Lib.hid (fun (r : Int) (w1 : World) h0 h1 => irune_high r w1 h0 h1)
  have HU := Lib.hid (fun (w1 : World) => Any.strings_shouldUseASCIISet (P := Tryz.prog) { lays153 with } (s.size : Int) w1)
  have HCI := Lib.hid (fun x => Lib.contains_iff_indexByte sepB.data.toList x)
  go_enter Tryz.func60, Tryz.ntmps60
  go_wp2_with fail
  refine (HU.out _).mono ?_
  rintro e w' ⟨rfl, hw⟩
  rw [hw, h8z]
  clear hw
  go_wp2_with fail
  go_loopg [9, 10] s.size (fun g _ _ wx => ∃ i : Nat, i + g = s.size ∧ wx.heap[w.heap.size]? = some (.stringIter s i) ∧ Below w.heap.size w wx ∧ Lib.NoAny s.data.toList sepL i)
  case atStart => exact ⟨0, by omega, World.iter_heap w s 0, (Below.refl _ _).alloc (Nat.le_refl _) _, Lib.NoAny.zero _ _⟩
  case round =>
    obtain ⟨i, hig, hit, hbw, hno⟩ := hrel
    have HN := Lib.hid hno
    have HB := Lib.hid hbw
    have HT := Lib.hid hit
    clear hno hbw
    have hsz : w.heap.size < wr.heap.size := (Array.getElem?_eq_some_iff.1 hit).1
    by_cases hi : i < s.size
    · obtain ⟨x, hx⟩ : ∃ x : UInt8, s[i]'hi = x := ⟨_, rfl⟩
      have hxl : s.data.toList[i]? = some x := by rw [← hx]; exact Lib.data_getElem? s i hi
      by_cases ha : x.toNat < 128
      · have hnx : ∀ ty, (Instr.next (.pointer (some ⟨w.heap.size, 0, none⟩)) true ty).run Tryz.prog wr = _ := fun ty => Lib.run_next_ascii_at wr w.heap.size s i ty hit hi (by rw [hx]; exact ha)
        rw [hx] at hnx
        have HT2 := Lib.hid (Lib.iterAt_heap wr w.heap.size s i (i + 1) hit)
        have HB2 := Lib.hid (Lib.below_iterAt HB.out (Nat.le_refl w.heap.size) s (i + 1))
        have HXL := Lib.hid hxl
        have hcon := HCI.out x
        have hback : ((x.toNat : Int)).toNat.toUInt8 = x := by simp
        have hx0 : (0 : Int) ≤ x.toNat := by omega
        have hx1 : (x.toNat : Int) < 128 := by omega
        clear hx hxl hit HT HB
        cases hin : sepB.data.toList.contains x
        · rw [hin] at hcon
          have hlt : ¬ ((0 : Int) ≤ Lib.indexByte sepB.data.toList x) := of_decide_eq_false hcon.symm
          have HIN := Lib.hid (show sepL.contains x = false from hin)
          clear hcon hin
          go_wp2_with fail
          refine (HC.out _ _ hx0 hx1).mono ?_
          rintro e w' ⟨rfl, hw⟩
          rw [hw, hback]
          clear hw hback
          go_wp2_with fail
          go_roundg (s.size - (i + 1))
          case measure => omega
          case rel => exact ⟨i + 1, by omega, HT2.out, HB2.out, HN.out.succ HXL.out HIN.out⟩
        · rw [hin] at hcon
          have hge : (0 : Int) ≤ Lib.indexByte sepB.data.toList x := of_decide_eq_true hcon.symm
          have HIN := Lib.hid (show sepL.contains x = true from hin)
          clear hcon hin
          go_wp2_with fail
          refine (HC.out _ _ hx0 hx1).mono ?_
          rintro e w' ⟨rfl, hw⟩
          rw [hw, hback]
          clear hw hback
          go_wp2_with fail
          go_ret
          exact ⟨by rw [Lib.indexAny_hit HN.out HXL.out HIN.out]; rfl, HB2.out⟩
      · have hnx : ∀ ty, (Instr.next (.pointer (some ⟨w.heap.size, 0, none⟩)) true ty).run Tryz.prog wr = _ := fun ty => Lib.run_next_any_at wr w.heap.size s i ty hit hi
        have ha2 : 128 ≤ (s[i]'hi).toNat := by rw [hx]; omega
        obtain ⟨d1, d2⟩ := decode_high s i hi ha2
        have d3 := decode_le s i
        have HP := Lib.hid (noAny_past hi ha2 HN.out)
        have hp := (decode_past s i hi ha2).1
        have HT2 := Lib.hid (fun j => Lib.iterAt_heap wr w.heap.size s i j hit)
        have HB2 := Lib.hid (fun j => Lib.below_iterAt HB.out (Nat.le_refl w.heap.size) s j)
        generalize Utf8.decode s i = D at *
        obtain ⟨r, q⟩ := D
        simp only at d1 d2 d3 hp hnx
        have hr1 : (128 : Int) ≤ (r : Int) := by omega
        have hr2 : (r : Int) ≤ 2147483647 := by omega
        clear hx hxl hit HT HB ha2 d1 d3
        go_wp2_with fail
        refine (HH.out _ _ hr1 hr2).mono ?_
        rintro e w' ⟨rfl, hb⟩
        have HB3 := Lib.hid hb
        clear hb
        go_wp2_with fail
        go_roundg (s.size - (i + q))
        case measure => omega
        case rel => exact ⟨i + q, by omega, (HB3.out.block _ (Array.getElem?_eq_some_iff.1 (HT2.out (i + q))).1).trans (HT2.out _), (HB2.out _).trans (HB3.out.mono (HB2.out _).size), HP.out⟩
    · obtain rfl : i = s.size := by omega
      have hnx : ∀ ty, (Instr.next (.pointer (some ⟨w.heap.size, 0, none⟩)) true ty).run Tryz.prog wr = _ := fun ty => Lib.run_next_end_at wr w.heap.size s s.size ty hit (by omega)
      clear hit
      go_wp2_with fail
      go_ret
      exact ⟨by rw [Lib.indexAny_none (by rw [← Lib.size_eq]; exact HN.out)]; rfl, HB.out⟩
/-- Where a text has the first byte that parts words; -1: none. -/
theorem ix_any (s : ByteArray) (w : World) (hs : s.size < 4294967281) :
    Calls Tryz.prog 60 #[.string s, .string sepB] w fun e w' => e = .returned (.int .i64 (Lib.indexAny s.data.toList sepL)) ∧ Below w.heap.size w w' := by
  by_cases h8 : s.size ≤ 8
  · exact ix_short s w h8
  · refine (Any.strings_IndexAny_long (P := Tryz.prog) lays153 (zero_of_info set153).1 (zero_of_info set153).2 s sepB w (by decide) (by omega) hs (by decide) asciiC).mono ?_
    rintro e w' ⟨rfl, rfl⟩
    exact ⟨rfl, ((Below.refl _ _).alloc (Nat.le_refl _) _).alloc (by simp) _⟩
end Go.Proofs.YtcaifejfkpmeeaaGreat
