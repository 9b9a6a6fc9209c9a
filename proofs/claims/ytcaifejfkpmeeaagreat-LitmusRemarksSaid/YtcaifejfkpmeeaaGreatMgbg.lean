/- The lines of a text as lists of bytes. -/
import Derived.Test.YtcaifejfkpmeeaaGreatMgaa
import Derived.Test.YtcaifejfkpmeeaaGreatMgaj
import Derived.Test.YtcaifejfkpmeeaaGreatMgal
import Derived.Test.YtcaifejfkpmeeaaGreatMgbd
namespace Go.Proofs.YtcaifejfkpmeeaaGreat
open Go.RowKit
set_option linter.unusedVariables false
set_option linter.unusedSimpArgs false

/-- Without places. -/
def nt (t : Tk) : Tk := (t.1, t.2.1, 0)
def nk (l : List Tk) : List Tk := l.map nt
def np (s : RS) : RS := { s with at_ := 0 }
section
variable (tk : List Tk) (s : RS)
theorem nk_len : (nk tk).length = tk.length := by simp [nk]
theorem pk_n : peekR (nk tk) (np s) = nt (peekR tk s) := by
  unfold peekR nk np
  rw [List.getD_eq_getElem?_getD, List.getD_eq_getElem?_getD, List.getElem?_map]
  cases tk[s.k]? <;> rfl
theorem np_next : nextR (nk tk) (np s) = np (nextR tk s) := by
  unfold nextR; rw [pk_n]
  show (if (peekR tk s).1 = 4 then np s else onR (np s)) = _
  split <;> rfl
theorem np_is (k : Int) (t : ByteArray) : isR (nk tk) (np s) k t = isR tk s k t := by unfold isR; rw [pk_n]; rfl
theorem np_fail (e : Int) : failR (nk tk) (np s) e = np (failR tk s e) := by
  unfold failR; rw [pk_n]
  show (if s.code = 0 then _ else _) = _
  split <;> rfl
theorem np_must (k : Int) (t : ByteArray) : mustR (nk tk) (np s) k t = np (mustR tk s k t) := by
  unfold mustR; rw [np_is]; split
  · exact np_next tk s
  · exact np_fail tk s 110
theorem np_end : endR (nk tk) (np s) = np (endR tk s) := by
  unfold endR; rw [pk_n]
  show (if (peekR tk s).1 = 4 then _ else _) = _
  split
  · rfl
  · exact np_fail tk s 110
theorem np_number : numberR (nk tk) (np s) = ((numberR tk s).1, np (numberR tk s).2) := by
  unfold numberR; rw [pk_n]
  show (if (peekR tk s).1 = 2 ∧ (numT (peekR tk s).2.1).2 = 0 then _ else _) = _
  split
  · rw [np_next]; rfl
  · rw [np_fail]
theorem np_small (n : Nat) : smallR (nk tk) (np s) n = ((smallR tk s n).1, np (smallR tk s n).2) := by
  unfold smallR; rw [pk_n]
  show (if (peekR tk s).1 = 2 ∧ (numT (peekR tk s).2.1).2 = 0 ∧ n ≤ (numT (peekR tk s).2.1).1 then _ else _) = _
  split
  · rw [np_fail]
  · exact np_number tk s
theorem np_more (m : Nat) : moreR (nk tk) (np s) m = np (moreR tk s m) := by
  unfold moreR; split
  · exact np_fail tk s 120
  · rfl
theorem np_value : valueR (nk tk) (np s) = ((valueR tk s).1, np (valueR tk s).2) := by
  unfold valueR; rw [np_must, np_number]
theorem np_reg : regR (nk tk) (np s) = np (regR tk s) := by
  unfold regR; rw [pk_n]
  show (if regN (peekR tk s).2.1 = none ∨ regN (peekR tk s).2.1 = some 31 ∨ ¬ (peekR tk s).1 = 1 then _ else _) = _
  split
  · exact np_fail tk s 110
  · rfl
theorem np_leaf : leafR (nk tk) (np s) = ((leafR tk s).1, np (leafR tk s).2) := by
  unfold leafR
  rw [np_is, np_is, np_is]
  split
  · dsimp only; rw [np_next, np_number]; dsimp only; rw [np_must, np_value]
  split
  · rw [np_next]
  split
  · dsimp only; rw [np_next, np_small]; dsimp only; rw [np_value]
  · dsimp only; rw [np_small]; dsimp only; rw [np_must, np_reg, np_next, np_value, pk_n]; rfl
theorem np_ok : okR (np s) = okR s := rfl
end
theorem np_parse (tk : List Tk) : ∀ (f : Nat) (F : PF) (s : RS) (m : Nat), parseF (nk tk) f F (np s) m = ((parseF tk f F s m).1, np (parseF tk f F s m).2.1, (parseF tk f F s m).2.2)
  | 0, _, s, m => by unfold parseF; rfl
  | f + 1, .either, s, m => by simp only [parseF]; rw [np_parse tk f]; dsimp only; rw [np_parse tk f]
  | f + 1, .both, s, m => by simp only [parseF]; rw [np_parse tk f]; dsimp only; rw [np_parse tk f]
  | f + 1, .eitherL c, s, m => by
    simp only [parseF]; rw [np_is, np_ok]; split
    · rw [np_next, np_more, np_parse tk f]; dsimp only; rw [np_parse tk f]
    · rfl
  | f + 1, .bothL c, s, m => by
    simp only [parseF]; rw [np_is, np_ok]; split
    · rw [np_next, np_more, np_parse tk f]; dsimp only; rw [np_parse tk f]
    · rfl
  | f + 1, .one, s, m => by
    simp only [parseF]; rw [np_is, np_ok]; split
    · rw [np_next, np_parse tk f]; dsimp only; rw [np_must]
    · rw [np_more, np_ok]; split
      · rw [np_is]; split
        · rw [np_next, np_parse tk f]
        · rw [np_leaf]
      · rfl
section
variable (tk : List Tk) (s : RS)
theorem np_parseC : parseC (nk tk) (np s) = ((parseC tk s).1, np (parseC tk s).2) := by
  unfold parseC; rw [nk_len, np_parse]; dsimp only; rw [np_end]
theorem np_fault (c a b : Int) : np (faultR (np s) c a) = np (faultR s c b) := by
  unfold faultR
  show np (if s.code = 0 then _ else _) = _
  split <;> rfl
theorem np_wis (t : ByteArray) : wIsR (nk tk) (np s) t = ((wIsR tk s t).1, np (wIsR tk s t).2) := by
  unfold wIsR; rw [np_is]; dsimp only; split
  · rw [np_next]
  · rfl
theorem np_flags : flagsR (nk tk) (np s) = ((flagsR tk s).1, np (flagsR tk s).2) := by
  unfold flagsR; dsimp only; simp only [np_wis]
theorem np_enc (x : Nat × Nat) : encR (nk tk) (np s) x = ((encR tk s x).1, np (encR tk s x).2) := by
  unfold encR; dsimp only; split
  · rfl
  · rw [np_fail]
theorem np_litV : litV (nk tk) (np s) = ((litV tk s).1, np (litV tk s).2) := by
  unfold litV; dsimp only; simp only [np_wis]
  split
  · rw [np_number]; dsimp only; rw [np_enc]
  split
  · rw [np_number]; dsimp only; rw [np_flags]; dsimp only; rw [np_enc]
  split
  · rw [np_number]; dsimp only; rw [np_flags]; dsimp only; rw [np_enc]
  · rw [np_number]
end
/-- A test without places. -/
def nx (x : SrcA) : SrcA := { x with pT := [], pC := [], pCo := [], pI := [], pCond := 0 }
section
variable {x y : SrcA}
theorem nx_name (h : nx x = nx y) : x.name = y.name := (congrArg SrcA.name h : (nx x).name = (nx y).name)
theorem nx_cells (h : nx x = nx y) : x.cells = y.cells := (congrArg SrcA.cells h : (nx x).cells = (nx y).cells)
theorem nx_cores (h : nx x = nx y) : x.cores = y.cores := (congrArg SrcA.cores h : (nx x).cores = (nx y).cores)
theorem nx_fa (h : nx x = nx y) : x.fa = y.fa := (congrArg SrcA.fa h : (nx x).fa = (nx y).fa)
theorem nx_cond (h : nx x = nx y) : x.cond = y.cond := (congrArg SrcA.cond h : (nx x).cond = (nx y).cond)
theorem nx_tables (h : nx x = nx y) : x.tables = y.tables := (congrArg SrcA.tables h : (nx x).tables = (nx y).tables)
theorem nx_after (h : nx x = nx y) : x.after = y.after := (congrArg SrcA.after h : (nx x).after = (nx y).after)
theorem nx_of (h1 : x.name = y.name) (h2 : x.cells = y.cells) (h3 : x.cores = y.cores) (h4 : x.fa = y.fa) (h5 : x.cond = y.cond) (h6 : x.tables = y.tables) (h7 : x.after = y.after) : nx x = nx y := by
  unfold nx; rw [h1, h2, h3, h4, h5, h6, h7]
end
/-- The outcomes of a function of a line, alike but for places. -/
def Alk (a b : SrcA × RS) : Prop := nx a.1 = nx b.1 ∧ np a.2 = np b.2
section
variable {x y : SrcA} {tk tl : List Tk} {s t : RS}
theorem ev {α : Type} (F : List Tk → RS → α × RS) (hF : ∀ tk s, F (nk tk) (np s) = ((F tk s).1, np (F tk s).2)) (hk : nk tk = nk tl) (hs : np s = np t) : (F tk s).1 = (F tl t).1 ∧ np (F tk s).2 = np (F tl t).2 := by
  have h := hF tk s
  rw [hk, hs, hF tl t] at h
  exact ⟨(congrArg Prod.fst h).symm, (congrArg Prod.snd h).symm⟩
theorem ev1 (F : List Tk → RS → RS) (hF : ∀ tk s, F (nk tk) (np s) = np (F tk s)) (hk : nk tk = nk tl) (hs : np s = np t) : np (F tk s) = np (F tl t) := by
  have h := hF tk s
  rw [hk, hs, hF tl t] at h
  exact h.symm
theorem pk_ev (hk : nk tk = nk tl) (hs : np s = np t) : (peekR tk s).1 = (peekR tl t).1 ∧ (peekR tk s).2.1 = (peekR tl t).2.1 := by
  have h := pk_n tk s
  rw [hk, hs, pk_n tl t] at h
  exact ⟨(congrArg Prod.fst h).symm, (congrArg (fun z => z.2.1) h).symm⟩
theorem code_ev (hs : np s = np t) : s.code = t.code := (congrArg RS.code hs : (np s).code = (np t).code)
theorem fault_ev (c a b : Int) (hs : np s = np t) : np (faultR s c a) = np (faultR t c b) := by
  rw [← np_fault s c 0 a, hs, np_fault t c 0 b]
theorem test_ev (h : nx x = nx y) (hk : nk tk = nk tl) (hs : np s = np t) : Alk (testR tk x s) (testR tl y t) := by
  have p := pk_ev hk hs
  unfold testR
  rw [← p.1]
  refine ⟨nx_of p.2 (nx_cells h :) (nx_cores h :) (nx_fa h :) (nx_cond h :) (nx_tables h :) rfl, ?_⟩
  dsimp only
  split
  · exact ev1 nextR np_next hk hs
  · exact ev1 nextR np_next hk (ev1 (fun tk s => failR tk s 110) (fun tk s => np_fail tk s 110) hk hs)
theorem table_ev (h : nx x = nx y) (hk : nk tk = nk tl) (hs : np s = np t) (a b : Int) : Alk (tableR tk x s a) (tableR tl y t b) := by
  have p := ev numberR np_number hk hs
  unfold tableR
  rw [nx_after h]
  split
  · exact ⟨nx_of (nx_name h :) (nx_cells h :) (nx_cores h :) (nx_fa h :) (nx_cond h :) (by show x.tables ++ _ = y.tables ++ _; rw [nx_tables h, p.1]) (by first | rfl | exact (nx_after h :)), p.2⟩
  · exact ⟨h, fault_ev 110 a b hs⟩
theorem cell_ev (h : nx x = nx y) (hk : nk tk = nk tl) (hs : np s = np t) (a b : Int) : Alk (cellR tk x s a) (cellR tl y t b) := by
  have p := ev numberR np_number hk hs
  have q := ev litV np_litV hk (ev1 (fun tk s => mustR tk s 3 ⟨#[61]⟩) (fun tk s => np_must tk s 3 _) hk p.2)
  unfold cellR
  rw [nx_after h]
  split
  · exact ⟨nx_of (nx_name h :) (by show x.cells ++ _ = y.cells ++ _; rw [nx_cells h, p.1, q.1]) (nx_cores h :) (nx_fa h :) (nx_cond h :) (nx_tables h :) (by first | rfl | exact (nx_after h :)), q.2⟩
  · exact ⟨h, fault_ev 110 a b hs⟩
theorem core_ev (h : nx x = nx y) (hk : nk tk = nk tl) (hs : np s = np t) (a b : Int) : Alk (coreR tk x s a) (coreR tl y t b) := by
  have p := ev (fun tk s => smallR tk s 65536) (fun tk s => np_small tk s _) hk hs
  try dsimp only at p
  unfold coreR
  dsimp only
  rw [← nx_cores h, ← p.1]
  have p1 : np (if (smallR tk s 65536).1 = x.cores.length then (smallR tk s 65536).2 else faultR (smallR tk s 65536).2 110 a) = np (if (smallR tk s 65536).1 = x.cores.length then (smallR tl t 65536).2 else faultR (smallR tl t 65536).2 110 b) := by
    split
    · exact p.2
    · exact fault_ev 110 a b p.2
  generalize (if (smallR tk s 65536).1 = x.cores.length then (smallR tk s 65536).2 else faultR (smallR tk s 65536).2 110 a) = s1 at *
  generalize (if (smallR tk s 65536).1 = x.cores.length then (smallR tl t 65536).2 else faultR (smallR tl t 65536).2 110 b) = t1 at *
  have p2 := ev (fun tk s => wIsR tk s ⟨#[115, 112, 97, 99, 101]⟩) (fun tk s => np_wis tk s _) hk p1
  try dsimp only at p2
  rw [← p2.1]
  have p3 : (if (wIsR tk s1 ⟨#[115, 112, 97, 99, 101]⟩).1 = true then smallR tk (wIsR tk s1 ⟨#[115, 112, 97, 99, 101]⟩).2 65536 else (0, (wIsR tk s1 ⟨#[115, 112, 97, 99, 101]⟩).2)).1 = (if (wIsR tk s1 ⟨#[115, 112, 97, 99, 101]⟩).1 = true then smallR tl (wIsR tl t1 ⟨#[115, 112, 97, 99, 101]⟩).2 65536 else (0, (wIsR tl t1 ⟨#[115, 112, 97, 99, 101]⟩).2)).1 ∧ np (if (wIsR tk s1 ⟨#[115, 112, 97, 99, 101]⟩).1 = true then smallR tk (wIsR tk s1 ⟨#[115, 112, 97, 99, 101]⟩).2 65536 else (0, (wIsR tk s1 ⟨#[115, 112, 97, 99, 101]⟩).2)).2 = np (if (wIsR tk s1 ⟨#[115, 112, 97, 99, 101]⟩).1 = true then smallR tl (wIsR tl t1 ⟨#[115, 112, 97, 99, 101]⟩).2 65536 else (0, (wIsR tl t1 ⟨#[115, 112, 97, 99, 101]⟩).2)).2 := by
    split
    · exact ev (fun tk s => smallR tk s 65536) (fun tk s => np_small tk s _) hk p2.2
    · exact ⟨rfl, p2.2⟩
  generalize (if (wIsR tk s1 ⟨#[115, 112, 97, 99, 101]⟩).1 = true then smallR tk (wIsR tk s1 ⟨#[115, 112, 97, 99, 101]⟩).2 65536 else (0, (wIsR tk s1 ⟨#[115, 112, 97, 99, 101]⟩).2)) = c at *
  generalize (if (wIsR tk s1 ⟨#[115, 112, 97, 99, 101]⟩).1 = true then smallR tl (wIsR tl t1 ⟨#[115, 112, 97, 99, 101]⟩).2 65536 else (0, (wIsR tl t1 ⟨#[115, 112, 97, 99, 101]⟩).2)) = d at *
  have p4 := ev numberR np_number hk (ev1 (fun tk s => mustR tk s 1 wTable) (fun tk s => np_must tk s 1 _) hk p3.2)
  try dsimp only at p4
  exact ⟨nx_of (nx_name h :) (nx_cells h :) (by show x.cores ++ _ = x.cores ++ _; rw [p3.1, p4.1]) (nx_fa h :) (nx_cond h :) (nx_tables h :) rfl, p4.2⟩
theorem lastF_ev (h : nx x = nx y) (f : CoreA → CoreA) : nx (lastF x f) = nx (lastF y f) := by
  unfold lastF
  rw [nx_cores h]
  split
  · exact h
  · exact nx_of (nx_name h :) (nx_cells h :) rfl (nx_fa h :) (nx_cond h :) (nx_tables h :) (nx_after h :)
theorem reg_ev (h : nx x = nx y) (hk : nk tk = nk tl) (hs : np s = np t) : Alk (regR' tk x s) (regR' tl y t) := by
  have p := pk_ev hk hs
  have q := ev litV np_litV hk (ev1 (fun tk s => mustR tk s 3 ⟨#[61]⟩) (fun tk s => np_must tk s 3 _) hk (ev1 nextR np_next hk hs))
  try dsimp only at q
  have e : regOk tk x s = regOk tl y t := by unfold regOk; rw [p.1, p.2, nx_cores h, nx_after h]
  unfold regR'
  rw [e]
  split
  · dsimp only
    rw [p.2, q.1]
    exact ⟨lastF_ev h _, q.2⟩
  · exact ⟨h, ev1 (fun tk s => failR tk s 110) (fun tk s => np_fail tk s 110) hk hs⟩
theorem hand_ev (h : nx x = nx y) (hs : np s = np t) (a b : Int) : Alk (handR x s a) (handR y t b) := by
  unfold handR
  rw [nx_after h]
  refine ⟨nx_of (nx_name h :) (nx_cells h :) (nx_cores h :) (nx_fa h :) (nx_cond h :) (nx_tables h :) rfl, ?_⟩
  dsimp only
  split
  · exact hs
  · exact fault_ev 110 a b hs
theorem cond_ev (h : nx x = nx y) (hk : nk tk = nk tl) (hs : np s = np t) (fa : Bool) (a b : Int) : Alk (condR tk x s fa a) (condR tl y t fa b) := by
  have p := ev parseC np_parseC hk hs
  unfold condR
  exact ⟨nx_of (nx_name h :) (nx_cells h :) (nx_cores h :) rfl p.1 (nx_tables h :) rfl, p.2⟩
theorem switch_ev (h : nx x = nx y) (hk : nk tk = nk tl) (hs : np s = np t) (w : ByteArray) (a b : Int) : Alk (switchR tk x s w a) (switchR tl y t w b) := by
  unfold switchR
  split
  · exact test_ev h hk hs
  split
  · exact table_ev h hk hs a b
  split
  · exact cell_ev h hk hs a b
  split
  · exact core_ev h hk hs a b
  split
  · exact reg_ev h hk hs
  split
  · exact hand_ev h hs a b
  · exact cond_ev h hk hs _ a b
theorem ins_ev (h : nx x = nx y) (r : ByteArray) (a b : Int) : nx (insR x r a).1 = nx (insR y r b).1 ∧ (insR x r a).2.1 = (insR y r b).2.1 := by
  unfold insR
  rw [nx_cores h]
  split
  · exact ⟨h, rfl⟩
  · dsimp only
    rw [nx_after h]
    split
    · have k := lastF_ev h (fun c => if y.after = 2 then { c with code := c.code ++ [(parseA r.data.toList).1] } else { c with hand := c.hand ++ [(parseA r.data.toList).1] })
      exact ⟨nx_of (nx_name k :) (nx_cells k :) (nx_cores k :) (nx_fa k :) (nx_cond k :) (nx_tables k :) (nx_after k :), rfl⟩
    · exact ⟨h, rfl⟩
end
theorem tkOf_n (r : ByteArray) (a b : Nat) (l : List (Nat × Nat × Nat)) : nk (tkOf r a l) = nk (tkOf r b l) := by
  unfold nk tkOf; rw [List.map_map, List.map_map]; rfl
/-- A line, read from either place. -/
theorem row_ev {x y : SrcA} (h : nx x = nx y) (r : ByteArray) (a b : Nat) : nx (rowA x r a).1 = nx (rowA y r b).1 ∧ (rowA x r a).2.1 = (rowA y r b).2.1 := by
  unfold rowA
  rw [nx_after h]
  dsimp only
  split
  · exact ⟨h, rfl⟩
  split
  · exact ins_ev h r a b
  split
  · exact ⟨h, rfl⟩
  · have hk := tkOf_n r a b (toksF r 0 []).1
    have k := switch_ev h hk (ev1 nextR np_next hk (rfl : np ⟨0, 0, 0⟩ = np ⟨0, 0, 0⟩)) (r.extract 0 (wordE r 0)) (a : Int) (b : Int)
    exact ⟨k.1, code_ev (ev1 endR np_end hk k.2)⟩
/-- Lines with the same texts are read alike. -/
theorem rows_ev (s t : ByteArray) : ∀ (l m : List (Nat × Nat)) (x y : SrcA), nx x = nx y → l.map (fun r => s.extract r.1 r.2) = m.map (fun r => t.extract r.1 r.2) → (rowsA s x l).2.1 = 0 → (rowsA t y m).2.1 = 0 ∧ nx (rowsA s x l).1 = nx (rowsA t y m).1
  | [], [], x, y, h, _, h0 => by
    simp only [rowsA] at h0 ⊢
    rw [← nx_after h]
    split at h0
    · rename_i h4; rw [if_pos h4, if_pos h4]; exact ⟨rfl, h⟩
    · cases h0
  | r :: l, [], x, y, _, he, _ => by simp at he
  | [], r :: m, x, y, _, he, _ => by simp at he
  | r :: l, q :: m, x, y, h, he, h0 => by
    simp only [List.map_cons, List.cons.injEq] at he
    have k := row_ev h (s.extract r.1 r.2) r.1 q.1
    simp only [rowsA] at h0 ⊢
    rw [← he.1, ← k.2]
    split at h0
    · rename_i hc
      rw [if_pos hc, if_pos hc]
      exact rows_ev s t l m _ _ k.1 he.2 h0
    · rename_i hc; exact absurd h0 hc
end Go.Proofs.YtcaifejfkpmeeaaGreat
namespace Go.Proofs.YtcaifejfkpmeeaaGreat
open Go.RowKit
set_option linter.unusedVariables false
set_option linter.unusedSimpArgs false

def seg (L : List UInt8) (a b : Nat) : List UInt8 := (L.drop a).take (b - a)
theorem seg_nil (L : List UInt8) (a : Nat) : seg L a a = [] := by simp [seg]
theorem seg_cons {L : List UInt8} {a b : Nat} (h : a < b) (hb : b ≤ L.length) : seg L a b = L[a]'(by omega) :: seg L (a + 1) b := by
  unfold seg
  rw [List.drop_eq_getElem_cons (by omega), show b - a = (b - (a + 1)) + 1 by omega, List.take_succ_cons]
theorem seg_snoc {L : List UInt8} {a b : Nat} (h : a ≤ b) (hb : b < L.length) : seg L a (b + 1) = seg L a b ++ [L[b]] := by
  unfold seg
  rw [show b + 1 - a = (b - a) + 1 by omega, List.take_succ_eq_append_getElem (by simp; omega)]
  congr 1
  simp [show a + (b - a) = b by omega]
theorem seg_len {L : List UInt8} {a b : Nat} (h : a ≤ b) (hb : b ≤ L.length) : (seg L a b).length = b - a := by simp [seg]; omega
theorem seg_split {L : List UInt8} {a b c : Nat} (h : a ≤ b) (hc : b ≤ c) : seg L a c = seg L a b ++ seg L b c := by
  unfold seg
  have e : L.drop b = (L.drop a).drop (b - a) := by rw [List.drop_drop]; congr 1; omega
  rw [e, show c - a = (b - a) + (c - b) by omega, List.take_add]
theorem extract_seg (s : ByteArray) (a b : Nat) : (s.extract a b).data.toList = seg s.data.toList a b := by
  rw [ByteArray.data_extract, Array.toList_extract]; rfl
theorem len_list (s : ByteArray) : s.data.toList.length = s.size := by show s.data.toList.length = s.data.size; simp
theorem bt_seg {s : ByteArray} {k : Nat} (h : k < s.data.toList.length) : bt s k = ((s.data.toList[k]).toNat : Int) := by
  have h' : k < s.size := by rw [← len_list]; exact h
  rw [bt_eq h']; rfl
/-- A scan is a walk along the list. -/
theorem scan_seg {s : ByteArray} {p : Nat → Bool} {P : UInt8 → Bool} (hp : ∀ k (h : k < s.data.toList.length), p k = P (s.data.toList[k])) {b : Nat} (hb : b ≤ s.data.toList.length) : ∀ (n a : Nat), b - a = n → a ≤ b → scan p b a = a + ((seg s.data.toList a b).takeWhile fun c => !P c).length := by
  intro n
  induction n with
  | zero => intro a hn ha; have e : a = b := by omega
            subst e; rw [scan_stop (by omega), seg_nil]; rfl
  | succ n ih =>
    intro a hn ha
    rw [seg_cons (by omega) hb]
    cases h : P (s.data.toList[a]'(by omega))
    · rw [scan_miss (by omega) ((hp a (by omega)).trans h), ih (a + 1) (by omega) (by omega), List.takeWhile_cons_of_pos (by show (!P _) = true; rw [h]; rfl)]
      simp; omega
    · rw [scan_hit (by omega) ((hp a (by omega)).trans h), List.takeWhile_cons_of_neg (by show ¬ (!P _) = true; rw [h]; decide)]; rfl
theorem back_seg {s : ByteArray} {p : Nat → Bool} {P : UInt8 → Bool} (hp : ∀ k (h : k < s.data.toList.length), p k = P (s.data.toList[k])) {a : Nat} : ∀ (n t : Nat), t - a = n → a ≤ t → t ≤ s.data.toList.length → back p a t + ((seg s.data.toList a t).reverse.takeWhile P).length = t := by
  intro n
  induction n with
  | zero => intro t hn ha ht; have e : a = t := by omega
            subst e; rw [back_stop (by omega), seg_nil]; rfl
  | succ n ih =>
    intro t hn ha ht
    obtain ⟨u, rfl⟩ : ∃ u, t = u + 1 := ⟨t - 1, by omega⟩
    rw [seg_snoc (by omega) (by omega), List.reverse_append]
    show _ + ((s.data.toList[u] :: (seg s.data.toList a u).reverse).takeWhile P).length = _
    cases h : P (s.data.toList[u]'(by omega))
    · rw [back_miss (by omega) ((hp u (by omega)).trans h), List.takeWhile_cons_of_neg (by rw [h]; decide)]; rfl
    · rw [back_hit (by omega) ((hp u (by omega)).trans h), List.takeWhile_cons_of_pos h]
      have := ih u (by omega) (by omega) (by omega)
      simp only [Nat.add_sub_cancel, List.length_cons]; omega
def cutL : List UInt8 → List UInt8
  | [] => []
  | c :: l => if c = 47 ∧ l.head? = some 47 then [] else c :: cutL l
def blankU (c : UInt8) : Bool := blankB (c.toNat : Int)
def trimL (l : List UInt8) : List UInt8 := ((l.dropWhile blankU).reverse.dropWhile blankU).reverse
theorem nat47 (c : UInt8) : (((c.toNat : Nat) : Int) == 47) = decide (c = 47) := by
  rw [Bool.eq_iff_iff, beq_iff_eq, decide_eq_true_iff]
  constructor
  · intro h; apply UInt8.toNat_inj.1; simp; omega
  · intro h; subst h; rfl
theorem cut_seg {s : ByteArray} {b : Nat} (hb : b ≤ s.data.toList.length) : ∀ (n a : Nat), b - a = n → a ≤ b → cutF s a b = a + (cutL (seg s.data.toList a b)).length := by
  intro n
  induction n with
  | zero => intro a hn ha; have e : a = b := by omega
            subst e; rw [seg_nil]; unfold cutF; rw [scan_stop (by omega), if_neg (by omega)]; rfl
  | succ n ih =>
    intro a hn ha
    rw [seg_cons (by omega) hb]
    have hh : (seg s.data.toList (a + 1) b).head? = some 47 ↔ a + 1 < b ∧ bt s (a + 1) = 47 := by
      by_cases h1 : a + 1 < b
      · rw [seg_cons h1 hb, bt_seg (by omega)]
        simp only [List.head?_cons, Option.some.injEq, h1, true_and]
        rw [← beq_iff_eq (b := (47 : Int)), nat47, decide_eq_true_iff]
      · have e : a + 1 = b := by omega
        rw [e, seg_nil]; simp
    by_cases h : s.data.toList[a]'(by omega) = 47 ∧ (seg s.data.toList (a + 1) b).head? = some 47
    · have h1 := hh.1 h.2
      have hs : slash2 s a = true := by unfold slash2; rw [bt_seg (by omega), h.1, h1.2]; rfl
      rw [cutL, if_pos h]
      unfold cutF
      rw [scan_hit (by omega) hs, if_pos (by omega)]; rfl
    · rw [cutL, if_neg h]
      by_cases h1 : a + 1 < b
      · have hs : slash2 s a = false := by
          cases hq : slash2 s a
          · rfl
          · exfalso; apply h
            unfold slash2 at hq
            rw [Bool.and_eq_true, beq_iff_eq, beq_iff_eq, bt_seg (by omega)] at hq
            refine ⟨?_, hh.2 ⟨h1, hq.2⟩⟩
            have := nat47 (s.data.toList[a]'(by omega))
            rw [hq.1] at this
            exact of_decide_eq_true this.symm
        have e : cutF s a b = cutF s (a + 1) b := by unfold cutF; rw [scan_miss (by omega) hs]
        rw [e, ih (a + 1) (by omega) (by omega)]
        simp; omega
      · have e : a + 1 = b := by omega
        unfold cutF
        rw [scan_stop (by omega), if_neg (by omega), e, seg_nil]
        simp [cutL]; omega
theorem drop_takeWhile {α : Type} (P : α → Bool) : ∀ (l : List α), l.drop (l.takeWhile P).length = l.dropWhile P
  | [] => rfl
  | a :: l => by
    cases h : P a
    · rw [List.takeWhile_cons_of_neg (by simp [h]), List.dropWhile_cons_of_neg (by simp [h])]; rfl
    · rw [List.takeWhile_cons_of_pos h, List.dropWhile_cons_of_pos h]; exact drop_takeWhile P l
theorem cutL_pre : ∀ (l : List UInt8), ∃ m, l = cutL l ++ m
  | [] => ⟨[], rfl⟩
  | c :: l => by
    rw [cutL]
    split
    · exact ⟨_, rfl⟩
    · obtain ⟨m, hm⟩ := cutL_pre l
      exact ⟨m, by rw [List.cons_append, ← hm]⟩
theorem seg_cut {L : List UInt8} {a b : Nat} (ha : a ≤ b) (hb : b ≤ L.length) : seg L a (a + (cutL (seg L a b)).length) = cutL (seg L a b) := by
  obtain ⟨m, hm⟩ := cutL_pre (seg L a b)
  have hl : (cutL (seg L a b)).length ≤ b - a := by
    have := congrArg List.length hm
    rw [seg_len ha hb] at this; simp at this; omega
  have key : ∀ k, k ≤ b - a → seg L a (a + k) = (seg L a b).take k := fun k hk => by
    unfold seg; rw [List.take_take]; congr 1; omega
  rw [key _ hl]
  have h2 : ∀ (x q m : List UInt8), x = q ++ m → x.take q.length = q := by
    intro x q m h; subst h; simp
  exact h2 _ _ m hm
/-- The text of a line without remark and blanks. -/
def rowL (l : List UInt8) : List UInt8 := trimL (cutL l)
theorem row_seg {s : ByteArray} {a b : Nat} (ha : a ≤ b) (hb : b ≤ s.data.toList.length) : seg s.data.toList (headF s a b) (tailF s a b) = rowL (seg s.data.toList a b) ∧ headF s a b = a + ((cutL (seg s.data.toList a b)).takeWhile blankU).length := by
  have hc := cut_seg hb _ a rfl ha
  have hc2 := seg_cut ha hb
  have hcb : cutF s a b ≤ b := (cutF_bd s a b ha).2
  have hcu : cutF s a b ≤ s.data.toList.length := by omega
  have hh : headF s a b = a + ((cutL (seg s.data.toList a b)).takeWhile blankU).length := by
    unfold headF
    rw [scan_seg (P := fun c => !blankU c) (fun k h => by unfold solidB blankU; rw [bt_seg h]) hcu _ a rfl (by omega), hc, hc2]
    simp
  have hd : seg s.data.toList (headF s a b) (cutF s a b) = (cutL (seg s.data.toList a b)).dropWhile blankU := by
    have h1 := headF_bd s a b ha
    rw [← drop_takeWhile, ← hc2]
    rw [← hc]
    have e : seg s.data.toList (headF s a b) (cutF s a b) = (seg s.data.toList a (cutF s a b)).drop (headF s a b - a) := by
      rw [seg_split h1.1 h1.2, List.drop_left' (by rw [seg_len h1.1 (by omega)])]
    rw [e, hh, hc, hc2]
    simp
  have h1 := headF_bd s a b ha
  have ht := back_seg (s := s) (p := fun k => blankB (bt s k)) (P := blankU) (fun k h => by unfold blankU; rw [bt_seg h]) (a := headF s a b) _ (cutF s a b) rfl h1.2 hcu
  refine ⟨?_, hh⟩
  have h2 := tailF_bd s a b ha
  unfold rowL trimL
  rw [← hd]
  have ht2 : tailF s a b + ((seg s.data.toList (headF s a b) (cutF s a b)).reverse.takeWhile blankU).length = cutF s a b := ht
  have e : seg s.data.toList (headF s a b) (tailF s a b) = (seg s.data.toList (headF s a b) (cutF s a b)).take (tailF s a b - headF s a b) := by
    rw [seg_split (b := tailF s a b) (c := cutF s a b) h2.1 (by omega), List.take_left' (by rw [seg_len h2.1 (by omega)])]
  rw [e, ← drop_takeWhile]
  generalize hq : seg s.data.toList (headF s a b) (cutF s a b) = q at *
  have hql : q.length = cutF s a b - headF s a b := by rw [← hq, seg_len h1.2 hcu]
  rw [List.reverse_drop, List.reverse_reverse]
  congr 1
  simp only [List.length_reverse]
  omega
/-- A text's lines. -/
def linesL : List UInt8 → List (List UInt8)
  | [] => [[]]
  | c :: l => if c = 10 then [] :: linesL l else match linesL l with
    | x :: xs => (c :: x) :: xs
    | [] => [[c]]
theorem linesL_ne : ∀ l, linesL l ≠ []
  | [] => by simp [linesL]
  | c :: l => by
    rw [linesL]
    split
    · simp
    · split <;> simp
theorem linesL_nl : ∀ (p : List UInt8) (l : List UInt8), (10 : UInt8) ∉ p → linesL (p ++ 10 :: l) = p :: linesL l
  | [], l, _ => by simp [linesL]
  | c :: p, l, h => by
    have hc : ¬ c = 10 := fun e => h (by simp [e])
    rw [List.cons_append, linesL, if_neg hc, linesL_nl p l (fun e => h (List.mem_cons_of_mem _ e))]
theorem linesL_one : ∀ (p : List UInt8), (10 : UInt8) ∉ p → linesL p = [p]
  | [], _ => rfl
  | c :: p, h => by
    have hc : ¬ c = 10 := fun e => h (by simp [e])
    rw [linesL, if_neg hc, linesL_one p (fun e => h (List.mem_cons_of_mem _ e))]
def rowsL (L : List UInt8) : List (List UInt8) := ((linesL L).map rowL).filter fun r => !r.isEmpty
theorem rowsL_nl {p : List UInt8} (l : List UInt8) (h : (10 : UInt8) ∉ p) : rowsL (p ++ 10 :: l) = (if (rowL p).isEmpty then [] else [rowL p]) ++ rowsL l := by
  unfold rowsL; rw [linesL_nl p l h]
  simp only [List.map_cons, List.filter_cons]
  cases (rowL p).isEmpty <;> rfl
theorem rowsL_one {p : List UInt8} (h : (10 : UInt8) ∉ p) : rowsL p = if (rowL p).isEmpty then [] else [rowL p] := by
  unfold rowsL; rw [linesL_one p h]
  simp only [List.map_cons, List.map_nil, List.filter_cons, List.filter_nil]
  cases (rowL p).isEmpty <;> rfl
theorem rowsF_acc : ∀ (n : Nat) (s : ByteArray) (f : Nat) (acc : List (Nat × Nat)), s.size + 1 - f = n → rowsF s f acc = acc ++ rowsF s f [] := by
  intro n
  induction n using Nat.strongRecOn with
  | _ n ih =>
    intro s f acc hn
    by_cases h : f ≤ s.size
    · have hg := (scan_ge (nlB s) s.size _ f rfl).1
      rw [rowsF_step h, rowsF_step h (acc := [])]
      rw [ih _ (by omega) s (scan (nlB s) s.size f + 1) _ rfl]
      rw [ih _ (by omega) s (scan (nlB s) s.size f + 1) (if headF s f (scan (nlB s) s.size f) < tailF s f (scan (nlB s) s.size f) then [] ++ [(headF s f (scan (nlB s) s.size f), tailF s f (scan (nlB s) s.size f))] else []) rfl]
      split <;> simp
    · rw [rowsF_end h, rowsF_end h]; simp
/-- From the line that begins at f on. -/
theorem line_at {s : ByteArray} {f : Nat} (h : f ≤ s.size) : (10 : UInt8) ∉ seg s.data.toList f (scan (nlB s) s.size f) ∧ f ≤ scan (nlB s) s.size f ∧ scan (nlB s) s.size f ≤ s.size ∧ ((scan (nlB s) s.size f < s.size ∧ s.data.toList.drop f = seg s.data.toList f (scan (nlB s) s.size f) ++ 10 :: s.data.toList.drop (scan (nlB s) s.size f + 1)) ∨ (scan (nlB s) s.size f = s.size ∧ s.data.toList.drop f = seg s.data.toList f (scan (nlB s) s.size f))) := by
  have hl := len_list s
  have hg := scan_ge (nlB s) s.size _ f rfl
  have hsp := scan_spec (nlB s) s.size _ f rfl
  have hk := hg.2 h
  generalize scan (nlB s) s.size f = k at *
  refine ⟨?_, hg.1, hk, ?_⟩
  · intro hm
    unfold seg at hm
    obtain ⟨j, hj, e⟩ := List.getElem_of_mem hm
    simp only [List.length_take, List.length_drop] at hj
    rw [List.getElem_take, List.getElem_drop] at e
    have h0 := hsp.1 (f + j) (by omega) (by omega)
    unfold nlB at h0
    rw [bt_seg (by omega), e] at h0
    exact absurd h0 (by decide)
  · by_cases hlt : k < s.size
    · refine .inl ⟨hlt, ?_⟩
      have h0 := hsp.2 hlt
      unfold nlB at h0
      rw [bt_seg (by omega)] at h0
      have e10 : s.data.toList[k]'(by omega) = 10 := by
        apply UInt8.toNat_inj.1; have h1 := beq_iff_eq.1 h0; exact Int.ofNat.inj h1
      have e : s.data.toList.drop f = seg s.data.toList f (k) ++ s.data.toList.drop (k) := by
        unfold seg
        rw [show s.data.toList.drop (k) = (s.data.toList.drop f).drop (k - f) by rw [List.drop_drop]; congr 1; omega, List.take_append_drop]
      rw [e, List.drop_eq_getElem_cons (by omega), e10]
    · refine .inr ⟨by omega, ?_⟩
      unfold seg
      rw [List.take_of_length_le (by rw [List.length_drop]; omega)]
theorem row_cond {s : ByteArray} {a b : Nat} (ha : a ≤ b) (hb : b ≤ s.data.toList.length) : headF s a b < tailF s a b ↔ (rowL (seg s.data.toList a b)).isEmpty = false := by
  have h := (row_seg ha hb).1
  have h2 := tailF_bd s a b ha
  rw [← h, List.isEmpty_eq_false_iff]
  constructor
  · intro hlt e
    have := seg_len (L := s.data.toList) h2.1 (by omega)
    rw [e] at this; simp at this; omega
  · intro hne
    rcases Nat.lt_or_ge (headF s a b) (tailF s a b) with h3 | h3
    · exact h3
    · exfalso; apply hne
      have e : headF s a b = tailF s a b := by omega
      rw [e, seg_nil]
/-- The lines' texts. -/
theorem rows_texts : ∀ (n : Nat) (s : ByteArray) (f : Nat), s.size + 1 - f = n → f ≤ s.size → (rowsF s f []).map (fun r => (s.extract r.1 r.2).data.toList) = rowsL (s.data.toList.drop f) := by
  intro n
  induction n using Nat.strongRecOn with
  | _ n ih =>
    intro s f hn h
    have hl := len_list s
    obtain ⟨h10, h1, h2, h3⟩ := line_at h
    have hr := row_seg (s := s) h1 (by omega)
    have hcd := row_cond (s := s) h1 (by omega)
    rw [rowsF_step h, rowsF_acc _ s _ _ rfl]
    generalize scan (nlB s) s.size f = k at *
    rw [List.map_append]
    have e1 : (if headF s f k < tailF s f k then ([] : List (Nat × Nat)) ++ [(headF s f k, tailF s f k)] else []).map (fun r => (s.extract r.1 r.2).data.toList) = if (rowL (seg s.data.toList f k)).isEmpty then [] else [rowL (seg s.data.toList f k)] := by
      by_cases hc : headF s f k < tailF s f k
      · rw [if_pos hc, hcd.1 hc, if_neg (by simp)]
        simp only [List.nil_append, List.map_cons, List.map_nil]
        rw [extract_seg, hr.1]
      · rw [if_neg hc]
        cases hq : (rowL (seg s.data.toList f k)).isEmpty
        · exact absurd (hcd.2 hq) hc
        · rfl
    rw [e1]
    rcases h3 with ⟨hk, e⟩ | ⟨hk, e⟩
    · rw [e, rowsL_nl _ h10, ih _ (by omega) s (k + 1) rfl (by omega)]
    · rw [e, rowsL_one h10, rowsF_end (by omega)]; simp
theorem rows_all (s : ByteArray) : (rowsF s 0 []).map (fun r => (s.extract r.1 r.2).data.toList) = rowsL s.data.toList := by
  have h := rows_texts _ s 0 rfl (Nat.zero_le _)
  simpa using h
end Go.Proofs.YtcaifejfkpmeeaaGreat
