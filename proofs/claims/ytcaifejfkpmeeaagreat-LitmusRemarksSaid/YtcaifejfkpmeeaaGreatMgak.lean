/- The contract of trim. -/
import Derived.Test.YtcaifejfkpmeeaaGreatMgaa
import Derived.Test.YtcaifejfkpmeeaaGreatMgac
import Derived.Test.YtcaifejfkpmeeaaGreatMgaj
import Derived.Lib.IndexAny
import Derived.Laws.Rows
namespace Go.Proofs.YtcaifejfkpmeeaaGreat
set_option linter.unusedVariables false
set_option linter.unusedSimpArgs false

def blankC (c : UInt8) : Bool := c == 32 || c == 9
def ownC (c : UInt8) : Bool := c == 44 || c == 91 || c == 93
/-- A byte of a word. -/
def wc (c : UInt8) : Bool := !(blankC c || ownC c)
/-- A byte ahead of a text's parts: it is the first one's, or a part for itself. -/
def glueW (c : UInt8) (l : List UInt8) (ws : List (List UInt8)) : List (List UInt8) :=
  match l, ws with
  | d :: _, w :: ws' => if wc d then (c :: w) :: ws' else [c] :: w :: ws'
  | _, ws => [c] :: ws
/-- A text's parts: words, and the signs , [ ]. -/
def wordsL : List UInt8 → List (List UInt8)
  | [] => []
  | c :: l => if blankC c then wordsL l else if ownC c then [c] :: wordsL l else glueW c l (wordsL l)
theorem wordsL_blank {c : UInt8} (h : blankC c = true) (l : List UInt8) : wordsL (c :: l) = wordsL l := by simp [wordsL, h]
theorem wordsL_own {c : UInt8} (h1 : blankC c = false) (h : ownC c = true) (l : List UInt8) : wordsL (c :: l) = [c] :: wordsL l := by simp [wordsL, h, h1]
theorem wc_not {c : UInt8} (h : wc c = true) : blankC c = false ∧ ownC c = false := by simpa [wc] using h
theorem wordsL_ne {c : UInt8} (h : wc c = true) (l : List UInt8) : ∃ w ws, wordsL (c :: l) = w :: ws := by
  obtain ⟨h1, h2⟩ := wc_not h
  unfold wordsL
  rw [h1, h2]
  simp only [Bool.false_eq_true, if_false]
  unfold glueW
  split
  · split <;> exact ⟨_, _, rfl⟩
  · exact ⟨_, _, rfl⟩
theorem wordsL_word : ∀ (l : List UInt8) (c : UInt8), wc c = true → wordsL (c :: l) = (c :: l.takeWhile wc) :: wordsL (l.dropWhile wc)
  | [], c, h => by
    obtain ⟨h1, h2⟩ := wc_not h
    simp [wordsL, h1, h2, glueW]
  | d :: l, c, h => by
    obtain ⟨h1, h2⟩ := wc_not h
    have e : wordsL (c :: d :: l) = glueW c (d :: l) (wordsL (d :: l)) := by rw [wordsL, h1, h2]; simp
    rw [e]
    cases hd : wc d with
    | true =>
      rw [wordsL_word l d hd]
      simp [glueW, hd]
    | false =>
      have hw : (d :: l).takeWhile wc = [] := by simp [hd]
      have hw2 : (d :: l).dropWhile wc = d :: l := by simp [hd]
      rw [hw, hw2]
      unfold glueW
      cases hh : wordsL (d :: l) with
      | nil => rfl
      | cons w ws => simp [hd]
def spanN (l : List UInt8) : Nat := (l.takeWhile wc).length
theorem spanN_le (l : List UInt8) : spanN l ≤ l.length := by
  unfold spanN; exact (List.takeWhile_prefix wc).length_le
theorem spanN_pos {c : UInt8} (h : wc c = true) (l : List UInt8) : 1 ≤ spanN (c :: l) := by simp [spanN, h]
theorem take_span : ∀ l : List UInt8, l.take (spanN l) = l.takeWhile wc
  | [] => rfl
  | c :: l => by
    unfold spanN
    cases h : wc c with
    | true => have := take_span l; unfold spanN at this; simp [h, this]
    | false => simp [h]
theorem drop_span : ∀ l : List UInt8, l.drop (spanN l) = l.dropWhile wc
  | [] => rfl
  | c :: l => by
    unfold spanN
    cases h : wc c with
    | true => have := drop_span l; unfold spanN at this; simp [h, this]
    | false => simp [h]
def sepC : List UInt8 := [32, 9, 44, 91, 93]
theorem sepC_wc (c : UInt8) : sepC.contains c = !wc c := by
  unfold sepC wc blankC ownC
  rw [List.contains_eq_any_beq]
  simp only [List.any_cons, List.any_nil, Bool.or_false, Bool.not_not]
  simp [Bool.or_assoc]
theorem index_span : ∀ l : List UInt8, (Lib.indexAny l sepC = -1 ∧ spanN l = l.length) ∨ (Lib.indexAny l sepC = (spanN l : Nat) ∧ spanN l < l.length)
  | [] => .inl ⟨rfl, rfl⟩
  | c :: l => by
    have ih := index_span l
    unfold Lib.indexAny
    rw [sepC_wc]
    cases h : wc c with
    | false => right; simp [spanN, h]
    | true =>
      have e : spanN (c :: l) = spanN l + 1 := by simp [spanN, h]
      rw [e]
      rcases ih with ⟨h1, h2⟩ | ⟨h1, h2⟩
      · left; simp [h1, h2]
      · right
        rw [h1]
        have : ¬ ((spanN l : Nat) : Int) = -1 := by omega
        simp [this, h2]
/-- The parts of what is left from a place on. -/
theorem words_at {l : List UInt8} {i : Nat} {c : UInt8} (h : l[i]? = some c) : l.drop i = c :: l.drop (i + 1) := by
  obtain ⟨hi, rfl⟩ := List.getElem?_eq_some_iff.1 h
  exact List.drop_eq_getElem_cons hi
theorem words_blank {l : List UInt8} {i : Nat} {c : UInt8} (h : l[i]? = some c) (hb : blankC c = true) {acc : List (List UInt8)} (ha : acc ++ wordsL (l.drop i) = wordsL l) : acc ++ wordsL (l.drop (i + 1)) = wordsL l := by
  rw [words_at h, wordsL_blank hb] at ha; exact ha
theorem words_own {l : List UInt8} {i : Nat} {c : UInt8} (h : l[i]? = some c) (hb : blankC c = false) (ho : ownC c = true) {acc : List (List UInt8)} (ha : acc ++ wordsL (l.drop i) = wordsL l) : (acc ++ [[c]]) ++ wordsL (l.drop (i + 1)) = wordsL l := by
  rw [words_at h, wordsL_own hb ho] at ha; simpa using ha
theorem words_word {l : List UInt8} {i : Nat} {c : UInt8} (h : l[i]? = some c) (hw : wc c = true) {acc : List (List UInt8)} (ha : acc ++ wordsL (l.drop i) = wordsL l) : (acc ++ [(l.drop i).take (spanN (l.drop i))]) ++ wordsL (l.drop (i + spanN (l.drop i))) = wordsL l := by
  have e : l.drop (i + spanN (l.drop i)) = (l.drop i).drop (spanN (l.drop i)) := by rw [List.drop_drop]
  rw [e, drop_span, take_span]
  have h2 := words_at h
  rw [h2] at ha ⊢
  rw [wordsL_word _ _ hw] at ha
  simpa [hw] using ha
theorem wordsL_len : ∀ l : List UInt8, (wordsL l).length ≤ l.length
  | [] => Nat.le_refl _
  | c :: l => by
    have ih := wordsL_len l
    unfold wordsL
    split
    · simp; omega
    · split
      · simp; omega
      · unfold glueW
        split
        · rename_i h; rw [h] at ih; split <;> simp at ih ⊢ <;> omega
        · simp; omega
theorem words_inv {l : List UInt8} {i : Nat} {acc : List (List UInt8)} (ha : acc ++ wordsL (l.drop i) = wordsL l) : acc.length ≤ l.length := by
  have h1 := wordsL_len l
  rw [← ha] at h1
  simp at h1; omega
end Go.Proofs.YtcaifejfkpmeeaaGreat
namespace Go.Proofs.YtcaifejfkpmeeaaGreat
open Go.RowKit
set_option linter.unusedVariables false
set_option linter.unusedSimpArgs false

/-- What is left of a text's parts; is it bad? -/
abbrev AS := List (List UInt8) × Bool
structure Ins where
  op : Int
  d : Int
  n : Int
  m : Int
  imm : Int
  kind : Int
def Ins.none : Ins := ⟨0, 0, 0, 0, 0, 0⟩
def nextA (s : AS) : List UInt8 × AS := match s.1 with | [] => ([], ([], true)) | w :: ws => (w, (ws, s.2))
def badA (s : AS) (b : Bool) : AS := (s.1, s.2 || b)
def mustA (s : AS) (t : List UInt8) : AS := badA (nextA s).2 (decide (¬ (nextA s).1 = t))
def mayA (s : AS) (t : List UInt8) : Bool × AS := match s.1 with | [] => (false, s) | w :: ws => if w = t then (true, (ws, s.2)) else (false, s)
def numberA (s : AS) (x : List UInt8) : Int × AS := if (parseL x).2 = 0 ∧ (parseL x).1 ≤ 1099511627776 then (((parseL x).1 : Nat), s) else (0, badA s true)
def regA (s : AS) : Int × AS := match regN (ba (nextA s).1) with | some j => ((j : Nat), (nextA s).2) | none => (0, badA (nextA s).2 true)
def cutA (p x : List UInt8) : List UInt8 × Bool := if p.isPrefixOf x then (x.drop p.length, true) else (x, false)
def countA (s : AS) : Int × AS := numberA (badA (nextA s).2 (!(cutA [35] (nextA s).1).2)) (cutA [35] (nextA s).1).1
def branchA (s : AS) : Int × AS :=
  if (cutA [46, 43] (nextA s).1).2 then numberA (nextA s).2 (cutA [46, 43] (nextA s).1).1
  else
    let y := numberA (badA (nextA s).2 (!(cutA [46, 45] (nextA s).1).2)) (cutA [46, 45] (nextA s).1).1
    (-y.1, y.2)
def placeA (s : AS) : (Int × Int) × AS :=
  let x := regA (mustA s [91])
  let m := mayA x.2 [44]
  if m.1 then ((x.1, (countA m.2).1), mustA (countA m.2).2 [93]) else ((x.1, 0), mustA m.2 [93])
def kindA (s : AS) (most : Nat) (name : Nat → List UInt8) : Int × AS :=
  if (nextA s).1 = [] then (0, badA (nextA s).2 true)
  else match (List.range most).find? (fun k => decide (name k = (nextA s).1)) with | some k => ((k : Nat), (nextA s).2) | none => (0, badA (nextA s).2 true)
def memoryA (s : AS) (op : Int) : Ins × AS :=
  let x := regA s
  let y := placeA (mustA x.2 [44])
  (⟨op, x.1, y.1.1, 0, y.1.2, 0⟩, y.2)
def moveA (s : AS) : Ins × AS :=
  let x := regA s
  let y := countA (mustA x.2 [44])
  let m := mayA y.2 [44]
  if m.1 then
    let z := countA (mustA m.2 [76, 83, 76])
    (⟨6, x.1, 0, 0, y.1, z.1 / 16⟩, badA z.2 (decide (¬ z.1 % 16 = 0)))
  else (⟨6, x.1, 0, 0, y.1, 0⟩, m.2)
def hashA (s : AS) : Bool := match s.1 with | [] => false | w :: _ => [35].isPrefixOf w
def addA (s : AS) : Ins × AS :=
  let x := regA s
  let y := regA (mustA x.2 [44])
  let s2 := mustA y.2 [44]
  if hashA s2 then (⟨7, x.1, y.1, 0, (countA s2).1, 0⟩, (countA s2).2) else (⟨8, x.1, y.1, (regA s2).1, 0, 0⟩, (regA s2).2)
def threeA (s : AS) (op : Int) : Ins × AS :=
  let x := regA s
  let y := regA (mustA x.2 [44])
  let z := regA (mustA y.2 [44])
  (⟨op, x.1, y.1, z.1, 0, 0⟩, z.2)
def testA (s : AS) (op : Int) : Ins × AS :=
  let x := regA s
  let y := branchA (mustA x.2 [44])
  (⟨op, x.1, 0, 0, y.1, 0⟩, y.2)
def flushN (k : Nat) : List UInt8 := flushL k
def barN (k : Nat) : List UInt8 := barL k
def sysN (k : Nat) : List UInt8 := sysL k
def flushA (s : AS) : Ins × AS :=
  let x := kindA s 8 flushN
  if x.1 % 4 = 0 then (⟨21, 31, 0, 0, 0, x.1⟩, x.2)
  else
    let y := regA (mustA x.2 [44])
    (⟨21, y.1, 0, 0, 0, x.1⟩, y.2)
def cmpA (s : AS) : Ins × AS :=
  let x := regA s
  let y := regA (mustA x.2 [44])
  (⟨13, 31, x.1, y.1, 0, 0⟩, y.2)
def mrsA (s : AS) : Ins × AS :=
  let x := regA s
  let y := kindA (mustA x.2 [44]) 3 sysN
  (⟨23, x.1, 0, 0, 0, y.1⟩, y.2)
/-- An instruction by its first word, out of what follows. -/
def bodyA (x : List UInt8) (s : AS) : Ins × AS :=
  if x = [78, 79, 80] then (⟨1, 0, 0, 0, 0, 0⟩, s)
  else if x = [73, 83, 66] then (⟨20, 0, 0, 0, 0, 0⟩, s)
  else if x = [69, 82, 69, 84] then (⟨22, 0, 0, 0, 0, 0⟩, s)
  else if x = [76, 68, 82] then memoryA s 2
  else if x = [83, 84, 82] then memoryA s 3
  else if x = [76, 68, 65, 82] then memoryA s 4
  else if x = [83, 84, 76, 82] then memoryA s 5
  else if x = [77, 79, 86] then moveA s
  else if x = [77, 79, 86, 90] then moveA s
  else if x = [65, 68, 68] then addA s
  else if x = [83, 85, 66] then threeA s 9
  else if x = [65, 78, 68] then threeA s 10
  else if x = [79, 82, 82] then threeA s 11
  else if x = [69, 79, 82] then threeA s 12
  else if x = [83, 85, 66, 83] then threeA s 13
  else if x = [67, 77, 80] then cmpA s
  else if x = [66] then (⟨14, 0, 0, 0, (branchA s).1, 0⟩, (branchA s).2)
  else if x = [66, 46, 69, 81] then (⟨17, 0, 0, 0, (branchA s).1, 0⟩, (branchA s).2)
  else if x = [66, 46, 78, 69] then (⟨17, 0, 0, 0, (branchA s).1, 1⟩, (branchA s).2)
  else if x = [67, 66, 90] then testA s 15
  else if x = [67, 66, 78, 90] then testA s 16
  else if x = [68, 77, 66] then (⟨18, 0, 0, 0, 0, (kindA s 16 barN).1⟩, (kindA s 16 barN).2)
  else if x = [68, 83, 66] then (⟨19, 0, 0, 0, 0, (kindA s 16 barN).1⟩, (kindA s 16 barN).2)
  else if x = [84, 76, 66, 73] then flushA s
  else if x = [77, 82, 83] then mrsA s
  else (Ins.none, badA s true)
def instrA (s : AS) : Ins × AS := bodyA (nextA s).1 (nextA s).2
/-- A text's instruction; 40: it is none. -/
def parseA (l : List UInt8) : Ins × Int :=
  let r := instrA (wordsL l, false)
  if r.2.2 = false ∧ r.2.1 = [] ∧ rightP r.1.op r.1.d r.1.n r.1.m r.1.imm r.1.kind then (r.1, 0) else (Ins.none, 40)
/-- The page's example. -/
theorem parseA_one : parseA [32, 77, 79, 86, 32, 88, 48, 32, 44, 32, 35, 48, 120, 49, 48, 32] = (⟨6, 0, 0, 0, 16, 0⟩, 0) := by kernel_rfl
theorem parseA_two : parseA [108, 100, 114, 32, 88, 49] = (Ins.none, 40) := by kernel_rfl
end Go.Proofs.YtcaifejfkpmeeaaGreat
namespace Go.Proofs.YtcaifejfkpmeeaaGreat
open Go.RowKit
set_option linter.unusedVariables false

theorem checkZ_long {s : ByteArray} (h : 16384 < s.size) : checkZ s = (2, 0) := by unfold checkZ; rw [if_pos h]
theorem checkZ_bad {s : ByteArray} {k : Nat} (h : ¬ 16384 < s.size) (hk : k < s.size) (hs : scan (badB s) s.size k = scan (badB s) s.size 0) (hb : badB s k = true) : checkZ s = (100, (k : Int)) := by
  unfold checkZ; rw [if_neg h, ← hs, scan_hit hk hb, if_pos hk]
theorem checkZ_ok {s : ByteArray} (h : ¬ 16384 < s.size) (hs : scan (badB s) s.size s.size = scan (badB s) s.size 0) : checkZ s = (0, 0) := by
  unfold checkZ; rw [if_neg h, ← hs, scan_stop (by omega), if_neg (by omega)]
theorem badB_eq {s : ByteArray} {k : Nat} (h : k < s.size) : badB s k = !okB (s[k].toNat : Int) := by unfold badB; rw [bt_eq h]

set_option maxHeartbeats 1600000 in
theorem check_any (s : ByteArray) (w : World) (hs : s.size ≤ maxLen) :
    Calls Tryz.prog 11 #[.string s] w fun e w' => e = .returned (.agg #[.int .i64 (checkZ s).1, .int .i64 (checkZ s).2]) ∧ Below w.heap.size w w' := by
  unfold maxLen at hs
  have HN := Lib.hid (fun (a b : Int) => show (w.alloc (.cells #[.int .i64 a, .int .i64 b] 41)).heap[w.heap.size]? = some (.cells #[.int .i64 a, .int .i64 b] 41 (0, 0)) from heap_alloc_new w _)
  have HE := Lib.hid (fun (p : Int × Int) (h : checkZ s = p) => show Ending.returned (.agg #[.int .i64 p.1, .int .i64 p.2]) = Ending.returned (.agg #[.int .i64 (checkZ s).1, .int .i64 (checkZ s).2]) from by rw [h])
  by_cases hl : 16384 < s.size
  · have hl' : (16384 : Int) < s.size := by omega
    have HZ := Lib.hid (checkZ_long hl)
    go_enter Tryz.func11, Tryz.ntmps11
    go_wp2
    exact bodyPost_ret (results_cell_row rfl _ _ w.heap.size 41 #[.int .i64 2, .int .i64 0] (0, 0) _ rfl (HN.out 2 0) Tryz.underlying41 rfl (by kernel_rfl)) rfl ⟨HE.out _ HZ.out, below_alloc (Below.refl _ _) _⟩
  · have hl' : (s.size : Int) ≤ 16384 := by omega
    have HL := Lib.hid hl
    clear hl
    go_enter Tryz.func11, Tryz.ntmps11
    go_wp2_with fail
    go_loop [11] (fun i => ∃ k : Nat, k ≤ s.size ∧ i = .int .i64 k ∧ scan (badB s) s.size k = scan (badB s) s.size 0) (fun i => s.size - (intOf i).toNat)
    case atStart => exact ⟨0, by omega, rfl, rfl⟩
    case round =>
      obtain ⟨k, hk, rfl, hsc⟩ := hrel
      have HS := Lib.hid hsc
      clear hsc
      by_cases hlt : k < s.size
      · have HB := Lib.hid (badB_eq hlt)
        have HBad := Lib.hid (fun h => checkZ_bad HL.out hlt HS.out h)
        have HMiss := Lib.hid (fun (h : badB s k = false) => (scan_miss (to := s.size) hlt h).symm.trans HS.out)
        have hbd := byte_bd s[k]
        obtain ⟨hb0, hb1⟩ := hbd
        by_cases hok : okB (s[k].toNat : Int) = true
        · have HN2 := Lib.hid (HMiss.out (by rw [HB.out, hok]; rfl))
          have HOK := Lib.hid (show okB (s[k].toNat : Int) = ((s[k].toNat : Int) == 10 || blankB (s[k].toNat : Int) || (decide (32 ≤ (s[k].toNat : Int)) && decide ((s[k].toNat : Int) ≤ 126))) from rfl)
          cases e10 : ((s[k].toNat : Int) == 10) <;> cases eb : blankB (s[k].toNat : Int)
          · have n10 : ((s[k].toNat : Int) != 10) = true := by simp only [bne, e10, Bool.not_false]
            have h32 : 32 ≤ (s[k].toNat : Int) ∧ (s[k].toNat : Int) ≤ 126 := by have := HOK.out; rw [hok, e10, eb] at this; simpa using this.symm
            obtain ⟨h32a, h32b⟩ := h32
            clear hok
            go_wp2_with (go_at_call 18; refine (blank_any _ _).mono ?_; rintro e w' ⟨rfl, rfl⟩)
            go_round
            case rel => exact ⟨k + 1, by omega, by go_num, HN2.out⟩
            case measure => simp [intOf]; omega
          all_goals
            first | have n10 : ((s[k].toNat : Int) != 10) = true := by simp only [bne, e10, Bool.not_false] | have n10 : ((s[k].toNat : Int) != 10) = false := by simp only [bne, e10, Bool.not_true]
            clear hok
            go_wp2_with (go_at_call 18; refine (blank_any _ _).mono ?_; rintro e w' ⟨rfl, rfl⟩)
            go_round
            case rel => exact ⟨k + 1, by omega, by go_num, HN2.out⟩
            case measure => simp [intOf]; omega
        · have hok' : okB (s[k].toNat : Int) = false := by simpa using hok
          have HZ := Lib.hid (HBad.out (by rw [HB.out, hok']; rfl))
          have h3 : ((s[k].toNat : Int) == 10) = false ∧ blankB (s[k].toNat : Int) = false ∧ ((s[k].toNat : Int) < 32 ∨ 126 < (s[k].toNat : Int)) := by
            unfold okB at hok'
            simp only [Bool.or_eq_false_iff, Bool.and_eq_false_iff, decide_eq_false_iff_not] at hok'
            exact ⟨hok'.1.1, hok'.1.2, by omega⟩
          obtain ⟨e10, eb, h4⟩ := h3
          have n10 : ((s[k].toNat : Int) != 10) = true := by simp only [bne, e10, Bool.not_false]
          clear hok hok'
          by_cases h5 : (s[k].toNat : Int) < 32
          all_goals
            first | have h6 : (s[k].toNat : Int) < 32 := h5 | have h6 : 126 < (s[k].toNat : Int) := by omega
            clear h4
            go_wp2_with (go_at_call 18; refine (blank_any _ _).mono ?_; rintro e w' ⟨rfl, rfl⟩)
            exact bodyPost_ret (results_cell_row rfl _ _ w.heap.size 41 #[.int .i64 100, .int .i64 k] (0, 0) _ rfl (HN.out 100 k) Tryz.underlying41 rfl (by kernel_rfl)) rfl ⟨HE.out _ HZ.out, below_alloc (Below.refl _ _) _⟩
      · obtain rfl : k = s.size := by omega
        have HZ := Lib.hid (checkZ_ok HL.out HS.out)
        go_wp2
        exact bodyPost_ret (results_cell_row rfl _ _ w.heap.size 41 #[.int .i64 0, .int .i64 0] (0, 0) _ rfl (HN.out 0 0) Tryz.underlying41 rfl (by kernel_rfl)) rfl ⟨HE.out _ HZ.out, below_alloc (Below.refl _ _) _⟩
end Go.Proofs.YtcaifejfkpmeeaaGreat
namespace Go.Proofs.YtcaifejfkpmeeaaGreat
open Go.RowKit
set_option linter.unusedVariables false
set_option linter.unusedSimpArgs false

theorem rblank_any (c : Int) (w : World) : Calls Tryz.prog 17 #[.int .u8 c] w fun e w' => e = .returned (.bool (blankB c)) ∧ w = w' := by
  have H := Lib.hid (show blankB c = (c == 32 || c == 9 || c == 13) from rfl)
  cases h1 : c == 32 <;> cases h2 : c == 9 <;> cases h3 : c == 13
  all_goals
    go_enter Tryz.func17, Tryz.ntmps17
    go_wp2
    go_ret
    exact ⟨ret_bool (by rw [H.out, h1, h2, h3]; rfl), rfl⟩

end Go.Proofs.YtcaifejfkpmeeaaGreat
namespace Go.Proofs.YtcaifejfkpmeeaaGreat
open Go.RowKit
set_option linter.unusedVariables false

set_option maxRecDepth 100000 in
set_option maxHeartbeats 4000000 in
theorem trim_any (s : ByteArray) (f t : Nat) (w : World) (hs : s.size ≤ 140737488351232) (hft : f ≤ t) (hts : t ≤ s.size) :
    Calls Tryz.prog 19 #[.string s, .int .i64 f, .int .i64 t] w fun e w' => e = .returned (.agg #[.string (s.extract (headF s f t) (tailF s f t)), .int .i64 (headF s f t : Nat)]) ∧ Below w.heap.size w w' := by
  go_enter Tryz.func19, Tryz.ntmps19
  go_wp2_with fail
  go_loop [2, 7] (fun v i => ∃ k : Nat, f ≤ k ∧ k ≤ t ∧ i = .int .i64 k ∧ v = .int .i64 t ∧ scan (slash2 s) (t - 1) k = scan (slash2 s) (t - 1) f) (fun _ i => t - (intOf i).toNat)
  case atStart => exact ⟨f, Nat.le_refl _, hft, rfl, rfl, rfl⟩
  case round =>
    obtain ⟨k, hfk, hkt, rfl, rfl, hsc⟩ := hrel
    have HS := Lib.hid hsc
    clear hsc
    by_cases hlt : k + 1 < t
    · have hk1 : k + 1 < s.size := by omega
      have hk0 : k < s.size := by omega
      have hlt' : (k : Int) + 1 < t := by omega
      have HQ0 := Lib.hid (bt_eq hk0)
      have HQ1 := Lib.hid (bt_eq hk1)
      cases h0 : ((s[k].toNat : Int) == 47) <;> cases h1 : ((s[k + 1].toNat : Int) == 47)
      case true.true =>
        have HC := Lib.hid (show cutF s f t = k from by
          have e : scan (slash2 s) (t - 1) f = k := by rw [← HS.out]; exact scan_hit (by omega) (by unfold slash2; rw [HQ0.out, HQ1.out, h0, h1]; rfl)
          unfold cutF; rw [e, if_pos hlt])
        clear HS
        have HFB := Lib.hid (show f ≤ k from by rw [← HC.out]; exact (cutF_bd s f t hft).1)
        have HH0 := Lib.hid (show scan (solidB s) k f = headF s f t from by unfold headF; rw [HC.out])
        have ht1s : k ≤ s.size := by have := (cutF_bd s f t hft).2; rw [HC.out] at this; omega
        go_wp2_with fail
        have hfk : f ≤ k := HFB.out
        go_loop [1] (fun v => ∃ a : Nat, f ≤ a ∧ a ≤ k ∧ v = .int .i64 a ∧ scan (solidB s) k a = headF s f t) (fun v => k - (intOf v).toNat)
        case atStart => exact ⟨f, Nat.le_refl _, hfk, rfl, HH0.out⟩
        case round =>
          obtain ⟨a, hfa, hat, rfl, hsc⟩ := hrel
          have HS := Lib.hid hsc
          clear hsc
          by_cases hlt : a < k
          · have has : a < s.size := by omega
            have HQ := Lib.hid (bt_eq has)
            cases hb : blankB (s[a].toNat : Int)
            · have HA := Lib.hid (show headF s f t = a from by rw [← HS.out]; exact scan_hit hlt (by unfold solidB; rw [HQ.out, hb]; rfl))
              have HT0 := Lib.hid (show back (fun k => blankB (bt s k)) a k = tailF s f t from by unfold tailF; rw [HA.out, HC.out])
              have HAB := Lib.hid hat
              clear HS
              go_wp2_with (go_at_call 18; refine (blank_any _ _).mono ?_; rintro e w' ⟨rfl, rfl⟩)
              have hak : a ≤ k := HAB.out
              go_loop [2] (fun v => ∃ e : Nat, a ≤ e ∧ e ≤ k ∧ v = .int .i64 e ∧ back (fun k => blankB (bt s k)) a e = tailF s f t) (fun v => (intOf v).toNat)
              case atStart => exact ⟨k, hak, Nat.le_refl _, rfl, HT0.out⟩
              case round =>
                obtain ⟨e, hae, het, rfl, hbk⟩ := hrel
                have HK := Lib.hid hbk
                clear hbk
                by_cases hlt : a < e
                · obtain ⟨q, rfl⟩ : ∃ q, e = q + 1 := ⟨e - 1, by omega⟩
                  have hqs : q < s.size := by omega
                  have hlt' : (a : Int) < (q : Int) + 1 := by omega
                  have HQ := Lib.hid (bt_eq hqs)
                  cases hb : blankB (s[q].toNat : Int)
                  · have HT := Lib.hid (show tailF s f t = q + 1 from by rw [← HK.out]; exact back_miss hlt (by simp only [Nat.add_sub_cancel]; rw [HQ.out]; exact hb))
                    clear HK
                    have HV := Lib.hid (show Ending.returned (.agg #[.string (s.extract a (q + 1)), .int .i64 (a : Nat)]) = Ending.returned (.agg #[.string (s.extract (headF s f t) (tailF s f t)), .int .i64 (headF s f t : Nat)]) from by rw [HA.out, HT.out])
                    have HN := Lib.hid (show (w.alloc (.cells #[.string (s.extract a (q + 1)), .int .i64 (a : Nat)] 60)).heap[w.heap.size]? = some (.cells #[.string (s.extract a (q + 1)), .int .i64 (a : Nat)] 60 (0, 0)) from heap_alloc_new w _)
                    go_wp2_with (go_at_call 18; refine (blank_any _ _).mono ?_; rintro e w' ⟨rfl, rfl⟩)
                    exact bodyPost_ret (results_cell_row rfl _ _ w.heap.size 60 #[.string (s.extract a (q + 1)), .int .i64 (a : Nat)] (0, 0) _ rfl HN.out Tryz.underlying60 rfl (by kernel_rfl)) rfl ⟨HV.out, below_alloc (Below.refl _ _) _⟩
                  · have HK2 := Lib.hid (show back (fun k => blankB (bt s k)) a q = tailF s f t from by rw [← HK.out]; exact (back_hit hlt (by simp only [Nat.add_sub_cancel]; rw [HQ.out]; exact hb)).symm)
                    clear HK
                    go_wp2_with (go_at_call 18; refine (blank_any _ _).mono ?_; rintro e w' ⟨rfl, rfl⟩)
                    go_round
                    case rel => exact ⟨q, by omega, by omega, by go_num, HK2.out⟩
                    case measure => simp [intOf]
                · obtain rfl : e = a := by omega
                  have HT := Lib.hid (show tailF s f t = e from by rw [← HK.out]; exact back_stop (by omega))
                  clear HK hlt
                  have HV := Lib.hid (show Ending.returned (.agg #[.string (ByteArray.empty), .int .i64 (e : Nat)]) = Ending.returned (.agg #[.string (s.extract (headF s f t) (tailF s f t)), .int .i64 (headF s f t : Nat)]) from by rw [HA.out, HT.out, show s.extract e e = ByteArray.empty by simp])
                  have HN := Lib.hid (show (w.alloc (.cells #[.string (ByteArray.empty), .int .i64 (e : Nat)] 60)).heap[w.heap.size]? = some (.cells #[.string (ByteArray.empty), .int .i64 (e : Nat)] 60 (0, 0)) from heap_alloc_new w _)
                  go_wp2_with (go_at_call 18; refine (blank_any _ _).mono ?_; rintro e w' ⟨rfl, rfl⟩)
                  exact bodyPost_ret (results_cell_row rfl _ _ w.heap.size 60 #[.string (ByteArray.empty), .int .i64 (e : Nat)] (0, 0) _ rfl HN.out Tryz.underlying60 rfl (by kernel_rfl)) rfl ⟨HV.out, below_alloc (Below.refl _ _) _⟩
            · have HS2 := Lib.hid (show scan (solidB s) k (a + 1) = headF s f t from by rw [← HS.out]; exact (scan_miss hlt (by unfold solidB; rw [HQ.out, hb]; rfl)).symm)
              clear HS
              go_wp2_with (go_at_call 18; refine (blank_any _ _).mono ?_; rintro e w' ⟨rfl, rfl⟩)
              go_round
              case rel => exact ⟨a + 1, by omega, by omega, by go_num, HS2.out⟩
              case measure => simp [intOf]; omega
          · have hlt' : (k : Int) ≤ a := by omega
            have HA := Lib.hid (show headF s f t = a from by rw [← HS.out]; exact scan_stop (by omega))
            have HT0 := Lib.hid (show back (fun k => blankB (bt s k)) a k = tailF s f t from by unfold tailF; rw [HA.out, HC.out])
            have HAB := Lib.hid hat
            clear HS hlt
            go_wp2_with (go_at_call 18; refine (blank_any _ _).mono ?_; rintro e w' ⟨rfl, rfl⟩)
            have hak : a ≤ k := HAB.out
            go_loop [2] (fun v => ∃ e : Nat, a ≤ e ∧ e ≤ k ∧ v = .int .i64 e ∧ back (fun k => blankB (bt s k)) a e = tailF s f t) (fun v => (intOf v).toNat)
            case atStart => exact ⟨k, hak, Nat.le_refl _, rfl, HT0.out⟩
            case round =>
              obtain ⟨e, hae, het, rfl, hbk⟩ := hrel
              have HK := Lib.hid hbk
              clear hbk
              by_cases hlt : a < e
              · exfalso; omega
              · obtain rfl : e = a := by omega
                have HT := Lib.hid (show tailF s f t = e from by rw [← HK.out]; exact back_stop (by omega))
                clear HK hlt
                have HV := Lib.hid (show Ending.returned (.agg #[.string (ByteArray.empty), .int .i64 (e : Nat)]) = Ending.returned (.agg #[.string (s.extract (headF s f t) (tailF s f t)), .int .i64 (headF s f t : Nat)]) from by rw [HA.out, HT.out, show s.extract e e = ByteArray.empty by simp])
                have HN := Lib.hid (show (w.alloc (.cells #[.string (ByteArray.empty), .int .i64 (e : Nat)] 60)).heap[w.heap.size]? = some (.cells #[.string (ByteArray.empty), .int .i64 (e : Nat)] 60 (0, 0)) from heap_alloc_new w _)
                go_wp2_with (go_at_call 18; refine (blank_any _ _).mono ?_; rintro e w' ⟨rfl, rfl⟩)
                exact bodyPost_ret (results_cell_row rfl _ _ w.heap.size 60 #[.string (ByteArray.empty), .int .i64 (e : Nat)] (0, 0) _ rfl HN.out Tryz.underlying60 rfl (by kernel_rfl)) rfl ⟨HV.out, below_alloc (Below.refl _ _) _⟩
      all_goals
        have HS2 := Lib.hid (show scan (slash2 s) (t - 1) (k + 1) = scan (slash2 s) (t - 1) f from by rw [← HS.out]; exact (scan_miss (by omega) (by unfold slash2; rw [HQ0.out, HQ1.out, h0, h1]; rfl)).symm)
        clear HS
        go_wp2_with fail
        go_round
        case rel => exact ⟨k + 1, by omega, by omega, by go_num, rfl, HS2.out⟩
        case measure => simp [intOf]; omega
    · have HC := Lib.hid (show cutF s f t = t from by
        have e : scan (slash2 s) (t - 1) f = k := by rw [← HS.out]; exact scan_stop (by omega)
        unfold cutF; rw [e, if_neg hlt])
      have hlt' : (t : Int) ≤ (k : Int) + 1 := by omega
      clear HS hlt
      have HFB := Lib.hid (show f ≤ t from by rw [← HC.out]; exact (cutF_bd s f t hft).1)
      have HH0 := Lib.hid (show scan (solidB s) t f = headF s f t from by unfold headF; rw [HC.out])
      have ht1s : t ≤ s.size := by have := (cutF_bd s f t hft).2; rw [HC.out] at this; omega
      go_wp2_with fail
      have hft : f ≤ t := HFB.out
      go_loop [1] (fun v => ∃ a : Nat, f ≤ a ∧ a ≤ t ∧ v = .int .i64 a ∧ scan (solidB s) t a = headF s f t) (fun v => t - (intOf v).toNat)
      case atStart => exact ⟨f, Nat.le_refl _, hft, rfl, HH0.out⟩
      case round =>
        obtain ⟨a, hfa, hat, rfl, hsc⟩ := hrel
        have HS := Lib.hid hsc
        clear hsc
        by_cases hlt : a < t
        · have has : a < s.size := by omega
          have HQ := Lib.hid (bt_eq has)
          cases hb : blankB (s[a].toNat : Int)
          · have HA := Lib.hid (show headF s f t = a from by rw [← HS.out]; exact scan_hit hlt (by unfold solidB; rw [HQ.out, hb]; rfl))
            have HT0 := Lib.hid (show back (fun k => blankB (bt s k)) a t = tailF s f t from by unfold tailF; rw [HA.out, HC.out])
            have HAB := Lib.hid hat
            clear HS
            go_wp2_with (go_at_call 18; refine (blank_any _ _).mono ?_; rintro e w' ⟨rfl, rfl⟩)
            have hat : a ≤ t := HAB.out
            go_loop [2] (fun v => ∃ e : Nat, a ≤ e ∧ e ≤ t ∧ v = .int .i64 e ∧ back (fun k => blankB (bt s k)) a e = tailF s f t) (fun v => (intOf v).toNat)
            case atStart => exact ⟨t, hat, Nat.le_refl _, rfl, HT0.out⟩
            case round =>
              obtain ⟨e, hae, het, rfl, hbk⟩ := hrel
              have HK := Lib.hid hbk
              clear hbk
              by_cases hlt : a < e
              · obtain ⟨q, rfl⟩ : ∃ q, e = q + 1 := ⟨e - 1, by omega⟩
                have hqs : q < s.size := by omega
                have hlt' : (a : Int) < (q : Int) + 1 := by omega
                have HQ := Lib.hid (bt_eq hqs)
                cases hb : blankB (s[q].toNat : Int)
                · have HT := Lib.hid (show tailF s f t = q + 1 from by rw [← HK.out]; exact back_miss hlt (by simp only [Nat.add_sub_cancel]; rw [HQ.out]; exact hb))
                  clear HK
                  have HV := Lib.hid (show Ending.returned (.agg #[.string (s.extract a (q + 1)), .int .i64 (a : Nat)]) = Ending.returned (.agg #[.string (s.extract (headF s f t) (tailF s f t)), .int .i64 (headF s f t : Nat)]) from by rw [HA.out, HT.out])
                  have HN := Lib.hid (show (w.alloc (.cells #[.string (s.extract a (q + 1)), .int .i64 (a : Nat)] 60)).heap[w.heap.size]? = some (.cells #[.string (s.extract a (q + 1)), .int .i64 (a : Nat)] 60 (0, 0)) from heap_alloc_new w _)
                  go_wp2_with (go_at_call 18; refine (blank_any _ _).mono ?_; rintro e w' ⟨rfl, rfl⟩)
                  exact bodyPost_ret (results_cell_row rfl _ _ w.heap.size 60 #[.string (s.extract a (q + 1)), .int .i64 (a : Nat)] (0, 0) _ rfl HN.out Tryz.underlying60 rfl (by kernel_rfl)) rfl ⟨HV.out, below_alloc (Below.refl _ _) _⟩
                · have HK2 := Lib.hid (show back (fun k => blankB (bt s k)) a q = tailF s f t from by rw [← HK.out]; exact (back_hit hlt (by simp only [Nat.add_sub_cancel]; rw [HQ.out]; exact hb)).symm)
                  clear HK
                  go_wp2_with (go_at_call 18; refine (blank_any _ _).mono ?_; rintro e w' ⟨rfl, rfl⟩)
                  go_round
                  case rel => exact ⟨q, by omega, by omega, by go_num, HK2.out⟩
                  case measure => simp [intOf]
              · obtain rfl : e = a := by omega
                have HT := Lib.hid (show tailF s f t = e from by rw [← HK.out]; exact back_stop (by omega))
                clear HK hlt
                have HV := Lib.hid (show Ending.returned (.agg #[.string (ByteArray.empty), .int .i64 (e : Nat)]) = Ending.returned (.agg #[.string (s.extract (headF s f t) (tailF s f t)), .int .i64 (headF s f t : Nat)]) from by rw [HA.out, HT.out, show s.extract e e = ByteArray.empty by simp])
                have HN := Lib.hid (show (w.alloc (.cells #[.string (ByteArray.empty), .int .i64 (e : Nat)] 60)).heap[w.heap.size]? = some (.cells #[.string (ByteArray.empty), .int .i64 (e : Nat)] 60 (0, 0)) from heap_alloc_new w _)
                go_wp2_with (go_at_call 18; refine (blank_any _ _).mono ?_; rintro e w' ⟨rfl, rfl⟩)
                exact bodyPost_ret (results_cell_row rfl _ _ w.heap.size 60 #[.string (ByteArray.empty), .int .i64 (e : Nat)] (0, 0) _ rfl HN.out Tryz.underlying60 rfl (by kernel_rfl)) rfl ⟨HV.out, below_alloc (Below.refl _ _) _⟩
          · have HS2 := Lib.hid (show scan (solidB s) t (a + 1) = headF s f t from by rw [← HS.out]; exact (scan_miss hlt (by unfold solidB; rw [HQ.out, hb]; rfl)).symm)
            clear HS
            go_wp2_with (go_at_call 18; refine (blank_any _ _).mono ?_; rintro e w' ⟨rfl, rfl⟩)
            go_round
            case rel => exact ⟨a + 1, by omega, by omega, by go_num, HS2.out⟩
            case measure => simp [intOf]; omega
        · have hlt' : (t : Int) ≤ a := by omega
          have HA := Lib.hid (show headF s f t = a from by rw [← HS.out]; exact scan_stop (by omega))
          have HT0 := Lib.hid (show back (fun k => blankB (bt s k)) a t = tailF s f t from by unfold tailF; rw [HA.out, HC.out])
          have HAB := Lib.hid hat
          clear HS hlt
          go_wp2_with (go_at_call 18; refine (blank_any _ _).mono ?_; rintro e w' ⟨rfl, rfl⟩)
          have hat : a ≤ t := HAB.out
          go_loop [2] (fun v => ∃ e : Nat, a ≤ e ∧ e ≤ t ∧ v = .int .i64 e ∧ back (fun k => blankB (bt s k)) a e = tailF s f t) (fun v => (intOf v).toNat)
          case atStart => exact ⟨t, hat, Nat.le_refl _, rfl, HT0.out⟩
          case round =>
            obtain ⟨e, hae, het, rfl, hbk⟩ := hrel
            have HK := Lib.hid hbk
            clear hbk
            by_cases hlt : a < e
            · exfalso; omega
            · obtain rfl : e = a := by omega
              have HT := Lib.hid (show tailF s f t = e from by rw [← HK.out]; exact back_stop (by omega))
              clear HK hlt
              have HV := Lib.hid (show Ending.returned (.agg #[.string (ByteArray.empty), .int .i64 (e : Nat)]) = Ending.returned (.agg #[.string (s.extract (headF s f t) (tailF s f t)), .int .i64 (headF s f t : Nat)]) from by rw [HA.out, HT.out, show s.extract e e = ByteArray.empty by simp])
              have HN := Lib.hid (show (w.alloc (.cells #[.string (ByteArray.empty), .int .i64 (e : Nat)] 60)).heap[w.heap.size]? = some (.cells #[.string (ByteArray.empty), .int .i64 (e : Nat)] 60 (0, 0)) from heap_alloc_new w _)
              go_wp2_with (go_at_call 18; refine (blank_any _ _).mono ?_; rintro e w' ⟨rfl, rfl⟩)
              exact bodyPost_ret (results_cell_row rfl _ _ w.heap.size 60 #[.string (ByteArray.empty), .int .i64 (e : Nat)] (0, 0) _ rfl HN.out Tryz.underlying60 rfl (by kernel_rfl)) rfl ⟨HV.out, below_alloc (Below.refl _ _) _⟩
end Go.Proofs.YtcaifejfkpmeeaaGreat
