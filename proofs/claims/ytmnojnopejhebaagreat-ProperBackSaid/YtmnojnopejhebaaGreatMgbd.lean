/- A test's text, put together line by line: plain. -/
import Derived.Test.YtmnojnopejhebaaGreatMgbc
import Derived.Lib.Join
namespace Go.Proofs.YtmnojnopejhebaaGreat
set_option linter.unusedVariables false
set_option linter.unusedSimpArgs false
set_option maxRecDepth 100000
set_option maxHeartbeats 25600000
section
open Go.RowKit
def okU (c : UInt8) : Bool := decide (32 ≤ c.toNat) && decide (c.toNat ≤ 126) && !(c == 47)
def capU (c : UInt8) : Bool := decide (65 ≤ c.toNat) && decide (c.toNat ≤ 90)
def capH : List UInt8 → Bool
 | c :: _ => capU c
 | [] => false
def tailOk (l : List UInt8) : Bool := match l.getLast? with | some c => !blankU c | none => false
def EndP (l : List UInt8) : Prop := l.all okU = true ∧ ∃ r c, l = r ++ [c] ∧ blankU c = false
theorem EndP.app {a b : List UInt8} (ha : a.all okU = true) (hb : EndP b) : EndP (a ++ b) := by
 obtain ⟨h1, r, c, rfl, h2⟩ := hb
 exact ⟨by rw [List.all_append, ha, h1]; rfl, a ++ r, c, by simp, h2⟩
theorem endP_lit {l : List UInt8} (h : (l.all okU && tailOk l) = true) : EndP l := by
 rw [Bool.and_eq_true] at h
 unfold tailOk at h
 refine ⟨h.1, ?_⟩
 rcases hq : l.getLast? with _ | c
 ·rw [hq] at h; exact absurd h.2 (by decide)
 ·obtain ⟨r, hr⟩ := List.getLast?_eq_some_iff.1 hq
  rw [hq] at h
  exact ⟨r, c, hr, by simpa using h.2⟩
theorem endP_txt (n : Nat) : EndP (txt 10 n) := by
 obtain ⟨h1, _, h3⟩ := txt_digits 10 (by decide) (by decide) (n + 1) n (by omega)
 have hd : ∀ d, d < 10 → okU (dg d) = true ∧ blankU (dg d) = false := by decide +kernel
 refine ⟨List.all_eq_true.2 fun c hc => ?_, (txt 10 n).dropLast, (txt 10 n).getLast h3, (List.dropLast_concat_getLast h3).symm, ?_⟩
 ·obtain ⟨d, hd1, rfl⟩ := h1 c hc; exact (hd d (by omega)).1
 ·obtain ⟨d, hd1, e⟩ := h1 _ (List.getLast_mem h3); rw [e]; exact (hd d (by omega)).2
theorem endP_hex (n : Nat) : EndP (hexL n) := by
 obtain ⟨h1, _, h3⟩ := txt_digits 16 (by decide) (by decide) (n + 1) n (by omega)
 have hd : ∀ d, d < 16 → okU (dg d) = true ∧ blankU (dg d) = false := by decide +kernel
 refine EndP.app (by decide) ⟨List.all_eq_true.2 fun c hc => ?_, (txt 16 n).dropLast, (txt 16 n).getLast h3, (List.dropLast_concat_getLast h3).symm, ?_⟩
 ·obtain ⟨d, hd1, rfl⟩ := h1 c hc; exact (hd d (by omega)).1
 ·obtain ⟨d, hd1, e⟩ := h1 _ (List.getLast_mem h3); rw [e]; exact (hd d (by omega)).2
theorem endP_int (n : Int) : EndP (intL n) := by
 unfold intL; split
 ·exact EndP.app (by decide) (endP_txt _)
 ·exact endP_txt _
theorem endP_reg {n : Int} (h0 : 0 ≤ n) (h1 : n ≤ 31) : EndP (regL n) := by
 unfold regL; split
 ·exact endP_lit (by decide)
 ·rw [if_pos (by omega)]; exact EndP.app (by decide) (endP_int n)
theorem endP_imm (n : Int) : EndP (immL n) := EndP.app (by decide) (endP_int n)
theorem endP_tgt (n : Int) : EndP (targetL n) := by
 unfold targetL; split
 ·exact EndP.app (by decide) (endP_int n)
 ·exact EndP.app (by decide) (endP_int n)
theorem EndP.all {l : List UInt8} (h : EndP l) : l.all okU = true := h.1
theorem names_all : ∀ op ∈ ([1, 2, 3, 4, 5, 6, 7, 8, 9, 10, 11, 12, 13, 14, 15, 16, 17, 18, 19, 20, 21, 22, 23] : List Int), (nameL op).all okU = true := by decide +kernel
theorem names_cap : ∀ op ∈ ([1, 2, 3, 4, 5, 6, 7, 8, 9, 10, 11, 12, 13, 14, 15, 16, 17, 18, 19, 20, 21, 22, 23] : List Int), op = 6 ∨ op = 14 ∨ op = 17 ∨ op = 18 ∨ op = 19 ∨ op = 21 ∨ op = 23 ∨ (capH (nameL op) = true ∧ tailOk (nameL op) = true) := by decide +kernel
theorem all_app {a b : List UInt8} (ha : a.all okU = true) (hb : b.all okU = true) : (a ++ b).all okU = true := by rw [List.all_append, ha, hb]; rfl
theorem cap_app {a b : List UInt8} (h : capH a = true) : capH (a ++ b) = true := by
 cases a with
 | nil => cases h
 | cons c l => exact h
theorem text_ok {op d n m imm kind : Int} (h : rightP op d n m imm kind) : EndP (textA op d n m imm kind) ∧ capH (textA op d n m imm kind) = true := by
 obtain ⟨⟨hop, ⟨hd0, hd1⟩, ⟨hn0, hn1⟩, ⟨hm0, hm1⟩⟩, hB, hC, hD⟩ := h
 have hmem : op ∈ ([1, 2, 3, 4, 5, 6, 7, 8, 9, 10, 11, 12, 13, 14, 15, 16, 17, 18, 19, 20, 21, 22, 23] : List Int) := by
  simp only [List.mem_cons, List.not_mem_nil, or_false]; omega
 have hall := names_all op hmem
 have hrest := names_cap op hmem
 have D := endP_reg hd0 hd1
 have N := endP_reg hn0 hn1
 have M := endP_reg hm0 hm1
 unfold rightD at hD
 have hend : ∀ k, k ∈ ([0, 1, 2, 3, 4, 5, 6, 7] : List Int) → ((flushL k).all okU && tailOk (flushL k)) = true := by decide +kernel
 have hbar : ∀ k, k ∈ ([9, 10, 11, 13, 14, 15] : List Int) → ((barL k).all okU && tailOk (barL k)) = true := by decide +kernel
 have hsys : ∀ k, k ∈ ([0, 1, 2] : List Int) → ((sysL k).all okU && tailOk (sysL k)) = true := by decide +kernel
 unfold textA
 by_cases e : op = 1 ∨ op = 20 ∨ op = 22
 ·rw [if_pos e]
  have hr : capH (nameL op) = true ∧ tailOk (nameL op) = true := by
   rcases hrest with h | h | h | h | h | h | h | h
   all_goals first | exact h | omega
  exact ⟨endP_lit (by rw [Bool.and_eq_true]; exact ⟨hall, hr.2⟩), hr.1⟩
 rw [if_neg e]
 by_cases e : (op = 2 ∨ op = 3) ∧ ¬ imm = 0
 ·rw [if_pos e]
  have hr : capH (nameL op) = true := by
   rcases hrest with h | h | h | h | h | h | h | h
   all_goals first | exact h.1 | omega
  exact ⟨EndP.app (all_app (all_app (all_app (all_app (all_app (all_app hall (by decide)) D.all) (by decide)) N.all) (by decide)) (endP_imm imm).all) (endP_lit (by decide)), by simp only [List.append_assoc]; exact cap_app hr⟩
 rw [if_neg e]
 by_cases e : op = 2 ∨ op = 3 ∨ op = 4 ∨ op = 5
 ·rw [if_pos e]
  have hr : capH (nameL op) = true := by
   rcases hrest with h | h | h | h | h | h | h | h
   all_goals first | exact h.1 | omega
  exact ⟨EndP.app (all_app (all_app (all_app (all_app hall (by decide)) D.all) (by decide)) N.all) (endP_lit (by decide)), by simp only [List.append_assoc]; exact cap_app hr⟩
 rw [if_neg e]
 by_cases e : op = 6
 ·rw [if_pos e]
  by_cases e2 : kind = 0
  ·rw [if_pos e2]
   exact ⟨EndP.app (all_app (all_app (by decide) D.all) (by decide)) (endP_imm imm), by simp only [List.append_assoc]; exact cap_app (by decide)⟩
  ·rw [if_neg e2]
   exact ⟨EndP.app (all_app (all_app (all_app (all_app (by decide) D.all) (by decide)) (endP_imm imm).all) (by decide)) (endP_int _), by simp only [List.append_assoc]; exact cap_app (by decide)⟩
 rw [if_neg e]
 by_cases e : op = 7
 ·rw [if_pos e]
  exact ⟨EndP.app (all_app (all_app (all_app (all_app (by decide) D.all) (by decide)) N.all) (by decide)) (endP_imm imm), by simp only [List.append_assoc]; exact cap_app (by decide)⟩
 rw [if_neg e]
 by_cases e : op = 14
 ·rw [if_pos e]
  exact ⟨EndP.app (by decide) (endP_tgt imm), cap_app (by decide)⟩
 rw [if_neg e]
 by_cases e : op = 15 ∨ op = 16
 ·rw [if_pos e]
  have hr : capH (nameL op) = true := by
   rcases hrest with h | h | h | h | h | h | h | h
   all_goals first | exact h.1 | omega
  exact ⟨EndP.app (all_app (all_app (all_app hall (by decide)) D.all) (by decide)) (endP_tgt imm), by simp only [List.append_assoc]; exact cap_app hr⟩
 rw [if_neg e]
 by_cases e : op = 17
 ·rw [if_pos e]
  by_cases e2 : kind = 0
  ·rw [if_pos e2]
   exact ⟨EndP.app (by decide) (endP_tgt imm), cap_app (by decide)⟩
  ·rw [if_neg e2]
   exact ⟨EndP.app (by decide) (endP_tgt imm), cap_app (by decide)⟩
 rw [if_neg e]
 by_cases e : op = 18
 ·rw [if_pos e]
  have hk := hD.1 (.inl e)
  exact ⟨EndP.app (by decide) (endP_lit (hbar kind (by simp only [List.mem_cons, List.not_mem_nil, or_false]; omega))), cap_app (by decide)⟩
 rw [if_neg e]
 by_cases e : op = 19
 ·rw [if_pos e]
  have hk := hD.1 (.inr e)
  exact ⟨EndP.app (by decide) (endP_lit (hbar kind (by simp only [List.mem_cons, List.not_mem_nil, or_false]; omega))), cap_app (by decide)⟩
 rw [if_neg e]
 by_cases e : op = 21
 ·rw [if_pos e]
  have hk := hD.2.1 e
  have F := endP_lit (hend kind (by simp only [List.mem_cons, List.not_mem_nil, or_false]; omega))
  by_cases e2 : kind % 4 = 0
  ·rw [if_pos e2]
   exact ⟨EndP.app (by decide) F, cap_app (by decide)⟩
  ·rw [if_neg e2]
   exact ⟨EndP.app (all_app (all_app (by decide) F.all) (by decide)) D, by simp only [List.append_assoc]; exact cap_app (by decide)⟩
 rw [if_neg e]
 by_cases e : op = 23
 ·rw [if_pos e]
  have hk := hD.2.2 e
  exact ⟨EndP.app (all_app (all_app (by decide) D.all) (by decide)) (endP_lit (hsys kind (by simp only [List.mem_cons, List.not_mem_nil, or_false]; omega))), by simp only [List.append_assoc]; exact cap_app (by decide)⟩
 rw [if_neg e]
 by_cases e : op = 13 ∧ d = 31
 ·rw [if_pos e]
  exact ⟨EndP.app (all_app (all_app (by decide) N.all) (by decide)) M, by simp only [List.append_assoc]; exact cap_app (by decide)⟩
 rw [if_neg e]
 have hr : capH (nameL op) = true := by
  rcases hrest with h | h | h | h | h | h | h | h
  all_goals first | exact h.1 | omega
 unfold threeL
 exact ⟨EndP.app (all_app (all_app (all_app (all_app (all_app hall (by decide)) D.all) (by decide)) N.all) (by decide)) M, by simp only [List.append_assoc]; exact cap_app hr⟩
theorem key_small {w : ByteArray} (h : keyB w = true) : ∃ c l, w.data.toList = c :: l ∧ capU c = false := by
 have hk : w = wTest ∨ w = wTable ∨ w = wCell ∨ w = wCore ∨ w = wReg ∨ w = wHandler ∨ w = wExists ∨ w = wForall := by
  simpa [keyB, or_assoc] using h
 rcases hk with e | e | e | e | e | e | e | e <;> (subst e; exact ⟨_, _, rfl, by decide⟩)
theorem cap_nokey {l : List UInt8} (h : capH l = true) (k : Nat) : keyB ((ba l).extract 0 k) = false := by
 cases hk : keyB ((ba l).extract 0 k)
 ·rfl
 ·exfalso
  obtain ⟨c, r, e, hc⟩ := key_small hk
  rw [extract_seg] at e
  unfold seg at e
  rw [List.drop_zero, ba_data] at e
  cases l with
  | nil => cases h
  | cons d l =>
   cases k with
   | zero => simp at e
   | succ k =>
    simp at e
    have h' : capU d = true := h
    rw [e.1, hc] at h'; cases h'
theorem line_ins {y : SrcA} {l : List CoreA} {c : CoreA} (hx : y.cores = l ++ [c]) (h4 : ¬ y.after = 4) (h0 : ¬ y.after = 0) {i : Ins} (h : rightP i.op i.d i.n i.m i.imm i.kind) (a : Nat) :
  (rowA y (ba (textA i.op i.d i.n i.m i.imm i.kind)) a).2.1 = 0 ∧ nx (rowA y (ba (textA i.op i.d i.n i.m i.imm i.kind)) a).1 = nx { y with cores := l ++ [if y.after = 2 then { c with code := c.code ++ [i] } else { c with hand := c.hand ++ [i] }] } := by
 obtain ⟨_, hcap⟩ := text_ok h
 have hkey := cap_nokey hcap (wordE (ba (textA i.op i.d i.n i.m i.imm i.kind)) 0)
 have hnt : ¬ (ba (textA i.op i.d i.n i.m i.imm i.kind)).extract 0 (wordE (ba (textA i.op i.d i.n i.m i.imm i.kind)) 0) = wTest := by
  intro e; rw [e] at hkey; exact absurd hkey (by decide)
 have hp : parseA (ba (textA i.op i.d i.n i.m i.imm i.kind)).data.toList = (i, 0) := back_any h rfl
 unfold rowA
 dsimp only
 rw [if_neg (by simp [h4, h0, hnt]), if_pos hkey]
 unfold insR
 rw [show y.cores.getLast? = some c by rw [hx]; simp]
 dsimp only
 rw [hp]
 dsimp only
 rw [if_pos rfl, lastF_eq hx]
 exact ⟨rfl, rfl⟩
end
section
open Go.RowKit
def insT (i : Ins) : List UInt8 := printA i.op i.d i.n i.m i.imm i.kind
def regRows : List Nat → Nat → List (List UInt8)
 | [], _ => []
 | v :: l, k => (if v = 0 then [] else [flat ((1, kwReg) :: psReg k v)]) ++ regRows l (k + 1)
def handRows (l : List Ins) : List (List UInt8) := if l = [] then [] else kwHandler :: l.map insT
def coreRows (i : Nat) (c : CoreA) : List (List UInt8) := flat ((1, kwCore) :: psCore i c.space c.table) :: (regRows c.regs 0 ++ (c.code.map insT ++ handRows c.hand))
def coresRows : Nat → List CoreA → List (List UInt8)
 | _, [] => []
 | i, c :: l => coreRows i c ++ coresRows (i + 1) l
def condRow (fa : Bool) (t : CT) : List UInt8 := (if fa then kwForall else kwExists) ++ [32] ++ printT t
def printRows (x : SrcA) : List (List UInt8) := flat ((1, kwTest) :: psTest x.name.data.toList) :: (x.tables.map (fun v => flat ((1, kwTable) :: psTable v)) ++ (x.cells.map (fun p => flat ((1, kwCell) :: psCell p.1 p.2)) ++ (coresRows 0 x.cores ++ [condRow x.fa x.cond])))
def runT : SrcA → List (List UInt8) → Option SrcA
 | x, [] => some x
 | x, l :: ls => if (rowA x (ba l) 0).2.1 = 0 then runT (rowA x (ba l) 0).1 ls else none
def Steps (x : SrcA) (ls : List (List UInt8)) (y : SrcA) : Prop := ∃ z, runT x ls = some z ∧ nx z = nx y
theorem Steps.nil (x : SrcA) : Steps x [] x := ⟨x, rfl, rfl⟩
theorem Steps.cong : ∀ (ls : List (List UInt8)) {x x' y : SrcA}, nx x = nx x' → Steps x ls y → Steps x' ls y
 | [], x, x', y, h, ⟨z, hz, he⟩ => by
  have e : x = z := by simpa [runT] using hz
  subst e; exact ⟨x', rfl, h.symm.trans he⟩
 | l :: ls, x, x', y, h, ⟨z, hz, he⟩ => by
  have k := row_ev h (ba l) 0 0
  rw [runT] at hz
  split at hz
  ·rename_i hc
   obtain ⟨z', hz', he'⟩ := Steps.cong ls k.1 ⟨z, hz, he⟩
   exact ⟨z', by rw [runT, ← k.2, if_pos hc]; exact hz', he'⟩
  ·cases hz
theorem Steps.to {x y y' : SrcA} {ls : List (List UInt8)} (h : Steps x ls y) (e : nx y = nx y') : Steps x ls y' := by
 obtain ⟨z, hz, he⟩ := h; exact ⟨z, hz, he.trans e⟩
theorem Steps.app : ∀ {a : List (List UInt8)} {b : List (List UInt8)} {x y z : SrcA}, Steps x a y → Steps y b z → Steps x (a ++ b) z
 | [], b, x, y, z, ⟨w, hw, he⟩, h => by
  have e : x = w := by simpa [runT] using hw
  subst e; exact Steps.cong b he.symm h
 | l :: a, b, x, y, z, ⟨w, hw, he⟩, h => by
  rw [runT] at hw
  split at hw
  ·rename_i hc
   obtain ⟨v, hv, hv'⟩ := Steps.app (a := a) (b := b) ⟨w, hw, he⟩ h
   exact ⟨v, by rw [List.cons_append, runT, if_pos hc]; exact hv, hv'⟩
  ·cases hw
theorem Steps.one {x y : SrcA} {l : List UInt8} (h : (rowA x (ba l) 0).2.1 = 0 ∧ nx (rowA x (ba l) 0).1 = nx y) : Steps x [l] y := ⟨_, by rw [runT, if_pos h.1]; rfl, h.2⟩
theorem Steps.cons {x y z : SrcA} {l : List UInt8} {ls : List (List UInt8)} (h : (rowA x (ba l) 0).2.1 = 0 ∧ nx (rowA x (ba l) 0).1 = nx y) (k : Steps y ls z) : Steps x (l :: ls) z := (Steps.one h).app k
theorem steps_tables : ∀ (ts : List Nat) (y : SrcA), y.after = 1 → (∀ t ∈ ts, t < W64) → Steps y (ts.map (fun v => flat ((1, kwTable) :: psTable v))) { y with tables := y.tables ++ ts }
 | [], y, _, _ => (Steps.nil y).to (by simp)
 | t :: ts, y, h1, h => by
  refine Steps.cons (line_table h1 (h t (by simp)) 0) ((steps_tables ts { y with tables := y.tables ++ [t] } h1 (fun u hu => h u (by simp [hu]))).to ?_)
  simp
theorem steps_cells : ∀ (ts : List (Nat × Nat)) (y : SrcA), y.after = 1 → (∀ t ∈ ts, t.1 < W64 ∧ t.2 < W64) → Steps y (ts.map (fun p => flat ((1, kwCell) :: psCell p.1 p.2))) { y with cells := y.cells ++ ts }
 | [], y, _, _ => (Steps.nil y).to (by simp)
 | t :: ts, y, h1, h => by
  refine Steps.cons (line_cell h1 (h t (by simp)).1 (h t (by simp)).2 0) ((steps_cells ts { y with cells := y.cells ++ [(t.1, t.2)] } h1 (fun u hu => h u (by simp [hu]))).to ?_)
  simp
theorem steps_regs : ∀ (rs pre : List Nat) (y : SrcA) (l : List CoreA) (c : CoreA), y.cores = l ++ [c] → y.after = 2 → c.code = [] → c.regs = pre ++ List.replicate rs.length 0 → pre.length + rs.length = 31 → (∀ v ∈ rs, v < W64) → Steps y (regRows rs pre.length) { y with cores := l ++ [{ c with regs := pre ++ rs }] }
 | [], pre, y, l, c, hx, _, _, hr, _, _ => by
  refine (Steps.nil y).to ?_
  have e : { c with regs := pre ++ [] } = c := by rw [show pre ++ [] = c.regs by rw [hr]; simp]
  rw [e, ← hx]
 | v :: rs, pre, y, l, c, hx, h2, hc, hr, hl, hv => by
  have hl' : pre.length + (rs.length + 1) = 31 := by simpa using hl
  unfold regRows
  by_cases h0 : v = 0
  ·rw [if_pos h0, List.nil_append]
   have k := steps_regs rs (pre ++ [v]) y l c hx h2 hc (by rw [hr, h0]; simp [List.replicate_succ]) (by simp; omega) (fun u hu => hv u (by simp [hu]))
   have e : (pre ++ [v]).length = pre.length + 1 := by simp
   rw [e] at k
   exact k.to (by simp)
  ·rw [if_neg h0]
   have hn : pre.length < 31 := by omega
   refine Steps.cons (line_reg hx h2 hc hn (hv v (by simp)) 0) ?_
   have k := steps_regs rs (pre ++ [v]) { y with cores := l ++ [{ c with regs := c.regs.set pre.length v }] } l { c with regs := c.regs.set pre.length v } rfl h2 hc (by
    show c.regs.set pre.length v = _
    rw [hr, List.length_cons, List.replicate_succ, List.set_append_right _ _ (Nat.le_refl _), Nat.sub_self]
    simp) (by simp; omega) (fun u hu => hv u (by simp [hu]))
   have e : (pre ++ [v]).length = pre.length + 1 := by simp
   rw [e] at k
   exact k.to (by simp)
def RightI (l : List Ins) : Prop := ∀ i ∈ l, rightP i.op i.d i.n i.m i.imm i.kind
theorem insT_eq {i : Ins} (h : rightP i.op i.d i.n i.m i.imm i.kind) : insT i = textA i.op i.d i.n i.m i.imm i.kind := by unfold insT printA; rw [if_pos h]
theorem steps_code : ∀ (is : List Ins) (y : SrcA) (l : List CoreA) (c : CoreA), y.cores = l ++ [c] → y.after = 2 → RightI is → Steps y (is.map insT) { y with cores := l ++ [{ c with code := c.code ++ is }] }
 | [], y, l, c, hx, _, _ => (Steps.nil y).to (by simp [← hx])
 | i :: is, y, l, c, hx, h2, hr => by
  have hi := hr i (by simp)
  rw [List.map_cons, insT_eq hi]
  have h1 := line_ins hx (by omega) (by omega) hi 0
  rw [if_pos h2] at h1
  refine Steps.cons h1 ((steps_code is { y with cores := l ++ [{ c with code := c.code ++ [i] }] } l { c with code := c.code ++ [i] } rfl h2 (fun j hj => hr j (by simp [hj]))).to ?_)
  simp
theorem steps_hand : ∀ (is : List Ins) (y : SrcA) (l : List CoreA) (c : CoreA), y.cores = l ++ [c] → y.after = 3 → RightI is → Steps y (is.map insT) { y with cores := l ++ [{ c with hand := c.hand ++ is }] }
 | [], y, l, c, hx, _, _ => (Steps.nil y).to (by simp [← hx])
 | i :: is, y, l, c, hx, h2, hr => by
  have hi := hr i (by simp)
  rw [List.map_cons, insT_eq hi]
  have h1 := line_ins hx (by omega) (by omega) hi 0
  rw [if_neg (by omega)] at h1
  refine Steps.cons h1 ((steps_hand is { y with cores := l ++ [{ c with hand := c.hand ++ [i] }] } l { c with hand := c.hand ++ [i] } rfl h2 (fun j hj => hr j (by simp [hj]))).to ?_)
  simp
structure CoreOK (c : CoreA) : Prop where
 len : c.regs.length = 31
 regs : ∀ v ∈ c.regs, v < W64
 space : c.space < 65536
 table : c.table < W64
 code : RightI c.code
 hand : RightI c.hand
theorem steps_core (y : SrcA) (c : CoreA) (h4 : ¬ y.after = 4) (h0 : ¬ y.after = 0) (hi : y.cores.length < 65536) (hc : CoreOK c) : ∃ a, ¬ a = 4 ∧ ¬ a = 0 ∧ Steps y (coreRows y.cores.length c) { y with cores := y.cores ++ [c], after := a } := by
 unfold coreRows
 have k1 := line_core h4 h0 hi hc.space hc.table 0
 have k2 := steps_regs c.regs [] { y with cores := y.cores ++ [⟨List.replicate 31 0, c.space, c.table, [], []⟩], after := 2 } y.cores ⟨List.replicate 31 0, c.space, c.table, [], []⟩ rfl rfl rfl (by rw [hc.len]; rfl) (by simpa using hc.len) hc.regs
 have k3 := steps_code c.code { y with cores := y.cores ++ [⟨c.regs, c.space, c.table, [], []⟩], after := 2 } y.cores ⟨c.regs, c.space, c.table, [], []⟩ rfl rfl hc.code
 by_cases hh : c.hand = []
 ·refine ⟨2, by decide, by decide, Steps.cons k1 (Steps.app k2 ?_)⟩
  unfold handRows; rw [if_pos hh, List.append_nil]
  refine k3.to ?_
  simp only [List.nil_append]
  rw [show (⟨c.regs, c.space, c.table, c.code, []⟩ : CoreA) = c by rw [← hh]]
 ·have k4 := line_hand (y := { y with cores := y.cores ++ [⟨c.regs, c.space, c.table, c.code, []⟩], after := 2 }) rfl 0
  have k5 := steps_hand c.hand { y with cores := y.cores ++ [⟨c.regs, c.space, c.table, c.code, []⟩], after := 3 } y.cores ⟨c.regs, c.space, c.table, c.code, []⟩ rfl rfl hc.hand
  refine ⟨3, by decide, by decide, Steps.cons k1 (Steps.app k2 (Steps.app k3 ?_))⟩
  unfold handRows; rw [if_neg hh]
  exact Steps.cons k4 k5
theorem steps_cores : ∀ (cs : List CoreA) (y : SrcA), ¬ y.after = 4 → ¬ y.after = 0 → y.cores.length + cs.length < 65536 → (∀ c ∈ cs, CoreOK c) → ∃ a, ¬ a = 4 ∧ ¬ a = 0 ∧ Steps y (coresRows y.cores.length cs) { y with cores := y.cores ++ cs, after := a }
 | [], y, h4, h0, _, _ => ⟨y.after, h4, h0, (Steps.nil y).to (by simp)⟩
 | c :: cs, y, h4, h0, hl, h => by
  have hl' : y.cores.length + (cs.length + 1) < 65536 := by simpa using hl
  obtain ⟨a, a4, a0, k⟩ := steps_core y c h4 h0 (by omega) (h c (by simp))
  obtain ⟨b, b4, b0, k2⟩ := steps_cores cs { y with cores := y.cores ++ [c], after := a } a4 a0 (by simp; omega) (fun d hd => h d (by simp [hd]))
  refine ⟨b, b4, b0, ?_⟩
  unfold coresRows
  have e : ({ y with cores := y.cores ++ [c], after := a } : SrcA).cores.length = y.cores.length + 1 := by simp
  rw [e] at k2
  exact Steps.app k (k2.to (by simp))
structure TestOK (x : SrcA) : Prop where
 name : pcOK (1, x.name.data.toList)
 tables : ∀ t ∈ x.tables, t < W64
 cells : ∀ p ∈ x.cells, p.1 < W64 ∧ p.2 < W64
 len : x.cores.length < 65536
 cores : ∀ c ∈ x.cores, CoreOK c
 cond : RT x.cond
 count : countT x.cond ≤ 64
theorem condRow_eq (fa : Bool) {t : CT} (h : RT t) : condRow fa t = flat ((1, if fa then kwForall else kwExists) :: (0, [32]) :: pcT t) := by
 unfold condRow; rw [flat_cons, flat_cons, flat_pcT h]; simp
theorem steps_all {x : SrcA} (h : TestOK x) : Steps src0 (printRows x) { x with cond := normT x.cond, after := 4 } := by
 have k1 := line_test (y := src0) rfl h.name 0
 have k2 := steps_tables x.tables { src0 with name := ba x.name.data.toList, after := 1 } rfl h.tables
 have k3 := steps_cells x.cells { src0 with name := ba x.name.data.toList, after := 1, tables := x.tables } rfl h.cells
 obtain ⟨a, a4, a0, k4⟩ := steps_cores x.cores { src0 with name := ba x.name.data.toList, after := 1, tables := x.tables, cells := x.cells } (by show ¬ (1 : Nat) = 4; decide) (by show ¬ (1 : Nat) = 0; decide) (by simpa [src0] using h.len) h.cores
 have k5 := line_cond (y := { src0 with name := ba x.name.data.toList, after := a, tables := x.tables, cells := x.cells, cores := x.cores }) a4 a0 x.fa h.cond h.count 0
 unfold printRows
 refine Steps.cons k1 (Steps.app (k2.to ?_) (Steps.app (k3.to ?_) (Steps.app k4 ((Steps.one (by rw [condRow_eq x.fa h.cond]; exact k5)).to ?_))))
 ·simp [src0]
 ·simp [src0]
 ·exact nx_of rfl rfl rfl rfl rfl rfl rfl
theorem run_of (s : ByteArray) : ∀ (l : List (Nat × Nat)) (ls : List (List UInt8)) (x y z : SrcA), nx x = nx y → l.map (fun r => (s.extract r.1 r.2).data.toList) = ls → runT x ls = some z → ∃ y', runA s y l = some y' ∧ nx z = nx y'
 | [], [], x, y, z, h, _, hr => by
  have e : x = z := by simpa [runT] using hr
  subst e; exact ⟨y, rfl, h⟩
 | r :: l, [], x, y, z, h, he, _ => by simp at he
 | [], q :: ls, x, y, z, h, he, _ => by simp at he
 | r :: l, q :: ls, x, y, z, h, he, hr => by
  simp only [List.map_cons, List.cons.injEq] at he
  have e1 : s.extract r.1 r.2 = ba q := by rw [← he.1]; rfl
  have k := row_ev h (ba q) 0 r.1
  rw [runT] at hr
  split at hr
  ·rename_i hc
   rw [runA, e1, ← k.2, if_pos hc]
   exact run_of s l ls _ _ z k.1 he.2 hr
  ·cases hr
end
section
open Go.RowKit
theorem norm_clean {t : CT} (h : RT t) (hcl : cleanT t = true) : normT t = t := by
 induction h with
 | reg c r a v hc hr hv =>
  obtain ⟨⟨_, _, rfl, _⟩, _⟩ := clean_head (show zeroT 1 c r a v [] = .mk 1 c r 0 v [] from rfl) hcl
  rfl
 | cell c r a v ha hv =>
  obtain ⟨⟨rfl, rfl, _, _⟩, _⟩ := clean_head (show zeroT 2 c r a v [] = .mk 2 0 0 a v [] from rfl) hcl
  rfl
 | flt c r a v hc hv =>
  obtain ⟨⟨_, rfl, rfl, _⟩, _⟩ := clean_head (show zeroT 3 c r a v [] = .mk 3 c 0 0 v [] from rfl) hcl
  rfl
 | tru c r a v =>
  obtain ⟨⟨rfl, rfl, rfl, rfl⟩, _⟩ := clean_head (show zeroT 7 c r a v [] = .mk 7 0 0 0 0 [] from rfl) hcl
  rfl
 | not c r a v hx ih =>
  rename_i x
  obtain ⟨⟨rfl, rfl, rfl, rfl⟩, hl⟩ := clean_head (show zeroT 6 c r a v [x] = .mk 6 0 0 0 0 [x] from rfl) hcl
  rw [cleanL, Bool.and_eq_true] at hl
  show CT.mk 6 0 0 0 0 (normL [x]) = _
  rw [normL, normL, ih hl.1]
 | and c r a v hx hy ihx ihy =>
  rename_i x y
  obtain ⟨⟨rfl, rfl, rfl, rfl⟩, hl⟩ := clean_head (show zeroT 4 c r a v [x, y] = .mk 4 0 0 0 0 [x, y] from rfl) hcl
  rw [cleanL, Bool.and_eq_true, cleanL, Bool.and_eq_true] at hl
  show CT.mk 4 0 0 0 0 (normL [x, y]) = _
  rw [normL, normL, normL, ihx hl.1, ihy hl.2.1]
 | or c r a v hx hy ihx ihy =>
  rename_i x y
  obtain ⟨⟨rfl, rfl, rfl, rfl⟩, hl⟩ := clean_head (show zeroT 5 c r a v [x, y] = .mk 5 0 0 0 0 [x, y] from rfl) hcl
  rw [cleanL, Bool.and_eq_true, cleanL, Bool.and_eq_true] at hl
  show CT.mk 5 0 0 0 0 (normL [x, y]) = _
  rw [normL, normL, normL, ihx hl.1, ihy hl.2.1]
def okV (c : UInt8) : Bool := decide (32 ≤ c.toNat) && decide (c.toNat ≤ 126)
def noSS : List UInt8 → Bool
 | [] => true
 | c :: l => !(decide (c = 47) && decide (l.head? = some 47)) && noSS l
structure CQ (l : List UInt8) : Prop where
 ss : noSS l = true
 ok : l.all okV = true
 tail : ∃ r c, l = r ++ [c] ∧ blankU c = false ∧ ¬ c = 47
theorem noSS_app : ∀ {a b : List UInt8}, noSS a = true → noSS b = true → ¬ a.getLast? = some 47 → noSS (a ++ b) = true
 | [], b, _, hb, _ => hb
 | [c], b, _, hb, hl => by
  show (!(decide (c = 47) && decide (b.head? = some 47)) && noSS b) = true
  have hc : ¬ c = 47 := fun e => hl (by rw [e]; rfl)
  rw [decide_eq_false hc, hb]; rfl
 | c :: d :: a, b, ha, hb, hl => by
  rw [noSS, Bool.and_eq_true] at ha
  have ih := noSS_app (a := d :: a) (b := b) ha.2 hb (fun e => hl (by rw [List.getLast?_cons_cons]; exact e))
  show (!(decide (c = 47) && decide ((d :: (a ++ b)).head? = some 47)) && noSS (d :: a ++ b)) = true
  rw [ih, Bool.and_true]
  exact ha.1
theorem okUV {c : UInt8} (h : okU c = true) : okV c = true ∧ ¬ c = 47 := by
 unfold okU at h; rw [Bool.and_eq_true] at h
 exact ⟨h.1, by simpa using h.2⟩
theorem noSS_ok : ∀ {l : List UInt8}, l.all okU = true → noSS l = true
 | [], _ => rfl
 | c :: l, h => by
  rw [List.all_cons, Bool.and_eq_true] at h
  rw [noSS, decide_eq_false (okUV h.1).2, noSS_ok h.2]; rfl
theorem allV {l : List UInt8} (h : l.all okU = true) : l.all okV = true := List.all_eq_true.2 fun c hc => (okUV (List.all_eq_true.1 h c hc)).1
theorem EndP.cq {l : List UInt8} (h : EndP l) : CQ l := by
 obtain ⟨h1, r, c, rfl, h2⟩ := h
 exact ⟨noSS_ok h1, allV h1, r, c, rfl, h2, (okUV (List.all_eq_true.1 h1 c (by simp))).2⟩
theorem CQ.app {a b : List UInt8} (ha : noSS a = true) (hv : a.all okV = true) (hl : ¬ a.getLast? = some 47) (hb : CQ b) : CQ (a ++ b) := by
 obtain ⟨r, c, e, h1, h2⟩ := hb.tail
 exact ⟨noSS_app ha hb.ss hl, by rw [List.all_append, hv, hb.ok]; rfl, a ++ r, c, by rw [e]; simp, h1, h2⟩
theorem CQ.last {l : List UInt8} (h : CQ l) : ¬ l.getLast? = some 47 := by
 obtain ⟨r, c, e, _, h2⟩ := h.tail
 rw [e]; simp; exact h2
theorem CQ.app2 {a b : List UInt8} (ha : CQ a) (hb : CQ b) : CQ (a ++ b) := CQ.app ha.ss ha.ok ha.last hb
theorem cq_inner {n : Nat} {x : Nat × List UInt8} (h : CQ x.2) : CQ (innerL n x) := by
 unfold innerL; split
 ·exact CQ.app2 (CQ.app (a := [40]) (by decide) (by decide) (by decide) h) (EndP.cq (endP_lit (by decide)))
 ·exact h
theorem cq_print {t : CT} (h : RT t) : CQ (printT t) := by
 induction h with
 | reg c r a v hc hr hv =>
  have e : printT (.mk 1 c r a v []) = intL c ++ ([58] ++ (regL r ++ ([61] ++ hexL v))) := by simp [printT, nodeL, nodeX]
  rw [e]
  exact (EndP.app (endP_int c).all (EndP.app (by decide) (EndP.app (endP_reg (by omega) (by omega)).all (EndP.app (by decide) (endP_hex v))))).cq
 | cell c r a v ha hv =>
  have e : printT (.mk 2 c r a v []) = [91] ++ (hexL a ++ ([93, 61] ++ hexL v)) := by simp [printT, nodeL, nodeX]
  rw [e]
  exact (EndP.app (by decide) (EndP.app (endP_hex a).all (EndP.app (by decide) (endP_hex v)))).cq
 | flt c r a v hc hv =>
  have e : printT (.mk 3 c r a v []) = [102, 97, 117, 108, 116, 115, 32] ++ (intL c ++ ([61] ++ hexL v)) := by simp [printT, nodeL, nodeX]
  rw [e]
  exact (EndP.app (by decide) (EndP.app (endP_int c).all (EndP.app (by decide) (endP_hex v)))).cq
 | tru c r a v =>
  have e : printT (.mk 7 c r a v []) = [116, 114, 117, 101] := by simp [printT, nodeL, nodeX]
  rw [e]; exact (endP_lit (by decide)).cq
 | not c r a v hx ih =>
  rename_i x
  rw [printT, printL, printL]
  show CQ ([126] ++ innerL 3 (levelT x, printT x))
  exact CQ.app (by decide) (by decide) (by decide) (cq_inner ih)
 | and c r a v hx hy ihx ihy =>
  rename_i x y
  rw [printT, printL, printL, printL]
  show CQ (innerL 2 (levelT x, printT x) ++ [32, 47, 92, 32] ++ innerL 3 (levelT y, printT y))
  have k := cq_inner (n := 2) (x := (levelT x, printT x)) ihx
  refine CQ.app (noSS_app k.ss (by decide) k.last) (by rw [List.all_append, k.ok]; decide) (by simp) (cq_inner ihy)
 | or c r a v hx hy ihx ihy =>
  rename_i x y
  rw [printT, printL, printL, printL]
  show CQ (innerL 1 (levelT x, printT x) ++ [32, 92, 47, 32] ++ innerL 2 (levelT y, printT y))
  have k := cq_inner (n := 1) (x := (levelT x, printT x)) ihx
  refine CQ.app (noSS_app k.ss (by decide) k.last) (by rw [List.all_append, k.ok]; decide) (by simp) (cq_inner ihy)
theorem cut_id : ∀ {l : List UInt8}, noSS l = true → cutL l = l
 | [], _ => rfl
 | c :: l, h => by
  rw [noSS, Bool.and_eq_true] at h
  have hn : ¬ (c = 47 ∧ l.head? = some 47) := by
   intro e; rw [decide_eq_true e.1, decide_eq_true e.2] at h; exact absurd h.1 (by decide)
  rw [cutL, if_neg hn, cut_id h.2]
structure LnOK (l : List UInt8) : Prop where
 row : rowL l = l
 ne : l ≠ []
 ok : l.all okV = true
theorem ln_of {l : List UInt8} (h : CQ l) (hh : ∃ c r, l = c :: r ∧ blankU c = false) : LnOK l := by
 obtain ⟨c, r, e, hc⟩ := hh
 obtain ⟨s, d, e2, hd, _⟩ := h.tail
 refine ⟨?_, by rw [e]; simp, h.ok⟩
 unfold rowL
 rw [cut_id h.ss]
 unfold trimL
 have h1 : l.dropWhile blankU = l := by
  conv => lhs; rw [e]
  rw [List.dropWhile_cons_of_neg (by rw [hc]; decide), ← e]
 rw [h1]
 have h2 : l.reverse = d :: s.reverse := by rw [e2]; simp
 rw [h2, List.dropWhile_cons_of_neg (by rw [hd]; decide), ← h2, List.reverse_reverse]
theorem ln_kw {kw t : List UInt8} (h : CQ t) (hk : (kw.all okU && (match kw with | c :: _ => !blankU c | [] => false)) = true) : LnOK (kw ++ ([32] ++ t)) := by
 rw [Bool.and_eq_true] at hk
 have h32 : CQ ([32] ++ t) := CQ.app (by decide) (by decide) (by decide) h
 refine ln_of (CQ.app (noSS_ok hk.1) (allV hk.1) ?_ h32) ?_
 ·intro e
  have hm := List.mem_of_getLast? e
  exact (okUV (List.all_eq_true.1 hk.1 47 hm)).2 rfl
 ·cases kw with
  | nil => exact absurd hk.2 (by decide)
  | cons c r => exact ⟨c, r ++ ([32] ++ t), rfl, by simpa using hk.2⟩
theorem word_endP {w : List UInt8} (h : pcOK (1, w)) : EndP w := by
 have key : ∀ n, n < 256 → letU (UInt8.ofNat n) = true → okU (UInt8.ofNat n) = true ∧ blankU (UInt8.ofNat n) = false := by decide +kernel
 have kc : ∀ c : UInt8, letU c = true → okU c = true ∧ blankU c = false := fun c hc => by
  have e : UInt8.ofNat c.toNat = c := by simp
  have := key c.toNat c.toNat_lt (by rw [e]; exact hc)
  rw [e] at this; exact this
 rcases h with h | h | h | h
 ·exact absurd h.1 (by simp)
 ·exact absurd h.1 (by simp)
 ·obtain ⟨_, h2, _, c, l, e, _⟩ := h
  have hne : w ≠ [] := by
   have e' : w = c :: l := e
   rw [e']; simp
  have h2' : w.all letU = true := h2
  exact ⟨List.all_eq_true.2 fun c hc => (kc c (List.all_eq_true.1 h2' c hc)).1, w.dropLast, w.getLast hne, (List.dropLast_concat_getLast hne).symm, (kc _ (List.all_eq_true.1 h2' _ (List.getLast_mem hne))).2⟩
 ·exact absurd h.1 (by simp)
theorem ln_regs : ∀ (rs : List Nat) (k : Nat), k + rs.length ≤ 31 → ∀ l ∈ regRows rs k, LnOK l
 | [], _, _, l, hl => by simp [regRows] at hl
 | v :: rs, k, hk, l, hl => by
  have hk' : k + (rs.length + 1) ≤ 31 := by simpa using hk
  unfold regRows at hl
  rcases List.mem_append.1 hl with hl | hl
  ·by_cases h0 : v = 0
   ·rw [if_pos h0] at hl; simp at hl
   ·rw [if_neg h0] at hl
    have e : l = flat ((1, kwReg) :: psReg k v) := by simpa using hl
    have e2 : flat ((1, kwReg) :: psReg k v) = kwReg ++ ([32] ++ (regL (k : Nat) ++ ([32, 61, 32] ++ hexL v))) := by simp [flat, psReg]
    rw [e, e2]
    exact ln_kw (EndP.app (endP_reg (by omega) (by omega)).all (EndP.app (by decide) (endP_hex v))).cq (by decide)
  ·exact ln_regs rs (k + 1) (by omega) l hl
theorem ln_ins {i : Ins} (h : rightP i.op i.d i.n i.m i.imm i.kind) : LnOK (insT i) := by
 rw [insT_eq h]
 obtain ⟨h1, h2⟩ := text_ok h
 refine ln_of h1.cq ?_
 cases hq : textA i.op i.d i.n i.m i.imm i.kind with
 | nil => rw [hq] at h2; cases h2
 | cons c r =>
  rw [hq] at h2
  refine ⟨c, r, rfl, ?_⟩
  have h3 : capU c = true := h2
  have key : ∀ n, n < 256 → capU (UInt8.ofNat n) = true → blankU (UInt8.ofNat n) = false := by decide +kernel
  have e : UInt8.ofNat c.toNat = c := by simp
  have := key c.toNat c.toNat_lt (by rw [e]; exact h3)
  rw [e] at this; exact this
theorem ln_core (i : Nat) {c : CoreA} (hc : CoreOK c) : ∀ l ∈ coreRows i c, LnOK l := by
 intro l hl
 unfold coreRows at hl
 rcases List.mem_cons.1 hl with e | hl
 ·rw [e]
  by_cases h0 : c.space = 0
  ·have e2 : flat ((1, kwCore) :: psCore i c.space c.table) = kwCore ++ ([32] ++ (intL (i : Nat) ++ ([32] ++ (kwTable ++ ([32] ++ hexL c.table))))) := by
    unfold psCore; rw [if_pos h0]; simp [flat]
   rw [e2]
   exact ln_kw (EndP.app (endP_int _).all (EndP.app (by decide) (EndP.app (by decide) (EndP.app (by decide) (endP_hex _))))).cq (by decide)
  ·have e2 : flat ((1, kwCore) :: psCore i c.space c.table) = kwCore ++ ([32] ++ (intL (i : Nat) ++ ([32] ++ (kwSpace ++ ([32] ++ (intL (c.space : Nat) ++ ([32] ++ (kwTable ++ ([32] ++ hexL c.table))))))))) := by
    unfold psCore; rw [if_neg h0]; simp [flat]
   rw [e2]
   exact ln_kw (EndP.app (endP_int _).all (EndP.app (by decide) (EndP.app (by decide) (EndP.app (by decide) (EndP.app (endP_int _).all (EndP.app (by decide) (EndP.app (by decide) (EndP.app (by decide) (endP_hex _))))))))).cq (by decide)
 ·rcases List.mem_append.1 hl with hl | hl
  ·exact ln_regs c.regs 0 (by rw [hc.len]; omega) l hl
  ·rcases List.mem_append.1 hl with hl | hl
   ·obtain ⟨i, hi, rfl⟩ := List.mem_map.1 hl
    exact ln_ins (hc.code i hi)
   ·unfold handRows at hl
    split at hl
    ·simp at hl
    ·rcases List.mem_cons.1 hl with e | hl
     ·rw [e]; exact ln_of (endP_lit (by decide)).cq ⟨104, _, rfl, by decide⟩
     ·obtain ⟨i, hi, rfl⟩ := List.mem_map.1 hl
      exact ln_ins (hc.hand i hi)
theorem ln_cores : ∀ (cs : List CoreA) (i : Nat), (∀ c ∈ cs, CoreOK c) → ∀ l ∈ coresRows i cs, LnOK l
 | [], _, _, l, hl => by simp [coresRows] at hl
 | c :: cs, i, h, l, hl => by
  unfold coresRows at hl
  rcases List.mem_append.1 hl with hl | hl
  ·exact ln_core i (h c (by simp)) l hl
  ·exact ln_cores cs (i + 1) (fun d hd => h d (by simp [hd])) l hl
theorem ln_all {x : SrcA} (h : TestOK x) : ∀ l ∈ printRows x, LnOK l := by
 intro l hl
 unfold printRows at hl
 rcases List.mem_cons.1 hl with e | hl
 ·have e2 : flat ((1, kwTest) :: psTest x.name.data.toList) = kwTest ++ ([32] ++ x.name.data.toList) := by simp [flat, psTest]
  rw [e, e2]; exact ln_kw (word_endP h.name).cq (by decide)
 rcases List.mem_append.1 hl with hl | hl
 ·obtain ⟨v, hv, rfl⟩ := List.mem_map.1 hl
  have e2 : flat ((1, kwTable) :: psTable v) = kwTable ++ ([32] ++ hexL v) := by simp [flat, psTable]
  rw [e2]; exact ln_kw (endP_hex v).cq (by decide)
 rcases List.mem_append.1 hl with hl | hl
 ·obtain ⟨p, hv, rfl⟩ := List.mem_map.1 hl
  have e2 : flat ((1, kwCell) :: psCell p.1 p.2) = kwCell ++ ([32] ++ (hexL p.1 ++ ([32, 61, 32] ++ hexL p.2))) := by simp [flat, psCell]
  rw [e2]; exact ln_kw (EndP.app (endP_hex _).all (EndP.app (by decide) (endP_hex _))).cq (by decide)
 rcases List.mem_append.1 hl with hl | hl
 ·exact ln_cores x.cores 0 h.cores l hl
 ·have e : l = condRow x.fa x.cond := by simpa using hl
  rw [e]; unfold condRow
  rw [List.append_assoc]
  exact ln_kw (cq_print h.cond) (by cases x.fa <;> decide)
def textS (x : SrcA) : List UInt8 := (printRows x).flatMap fun l => l ++ [10]
theorem no_nl {l : List UInt8} (h : l.all okV = true) : (10 : UInt8) ∉ l := fun e => absurd (List.all_eq_true.1 h 10 e) (by decide)
theorem rows_text : ∀ (ls : List (List UInt8)), (∀ l ∈ ls, LnOK l) → rowsL (ls.flatMap fun l => l ++ [10]) = ls
 | [], _ => rfl
 | l :: ls, h => by
  have hl := h l (by simp)
  have e : (l :: ls).flatMap (fun l => l ++ [10]) = l ++ 10 :: (ls.flatMap fun l => l ++ [10]) := by simp
  have hne : l.isEmpty = false := by cases l with | nil => exact absurd rfl hl.ne | cons => rfl
  rw [e, rowsL_nl _ (no_nl hl.ok), hl.row, hne, if_neg (by simp), rows_text ls (fun k hk => h k (by simp [hk]))]; rfl
theorem print_back {x : SrcA} (h : TestOK x) (hcl : cleanT x.cond = true) (hsz : (textS x).length ≤ 16384) : ∃ y, litA (ba (textS x)) = (y, 0, 0) ∧ nx y = nx { x with after := 4 } := by
 have hln := ln_all h
 obtain ⟨z, hz, hzn⟩ := steps_all h
 have hck : (checkZ (ba (textS x))).1 = 0 := by
  refine (checkZ_iff _).2 ⟨by rw [ba_size]; exact hsz, fun c hc => ?_⟩
  rw [ba_data] at hc
  obtain ⟨l, hl, hc⟩ := List.mem_flatMap.1 hc
  rcases List.mem_append.1 hc with hc | hc
  ·have hv := List.all_eq_true.1 (hln l hl).ok c hc
   unfold okV at hv; rw [Bool.and_eq_true, decide_eq_true_iff, decide_eq_true_iff] at hv
   unfold okB
   simp only [Bool.or_eq_true, Bool.and_eq_true, decide_eq_true_eq]
   exact .inr ⟨by omega, by omega⟩
  ·have e : c = 10 := by simpa using hc
   rw [e]; decide
 have htx : (rowsF (ba (textS x)) 0 []).map (fun r => ((ba (textS x)).extract r.1 r.2).data.toList) = printRows x := by
  rw [rows_all, ba_data]; exact rows_text _ hln
 obtain ⟨y, hy, hyn⟩ := run_of (ba (textS x)) _ _ src0 src0 z rfl htx hz
 have hrow := rowsA_run _ _ _ _ hy
 have hya : y.after = 4 := by rw [← nx_after hyn, nx_after hzn]
 rw [if_pos hya] at hrow
 refine ⟨y, by unfold litA; rw [if_pos hck]; exact hrow, ?_⟩
 rw [← hyn, hzn]
 exact nx_of rfl rfl rfl rfl (norm_clean h.cond hcl) rfl rfl
end
section
open Go.RowKit
def L10 (rs : List (List UInt8)) : List UInt8 := rs.flatMap fun l => l ++ [10]
theorem L10_nil : L10 [] = [] := rfl
theorem L10_cons (l : List UInt8) (rs : List (List UInt8)) : L10 (l :: rs) = (l ++ [10]) ++ L10 rs := rfl
theorem L10_append (a b : List (List UInt8)) : L10 (a ++ b) = L10 a ++ L10 b := by simp [L10]
theorem L10_one (l : List UInt8) : L10 [l] = l ++ [10] := by simp [L10]
theorem textS_eq (x : SrcA) : textS x = L10 (printRows x) := rfl
theorem regRows_append : ∀ (a b : List Nat) (n : Nat), regRows (a ++ b) n = regRows a n ++ regRows b (n + a.length)
 | [], b, n => by simp [regRows]
 | v :: a, b, n => by
  rw [List.cons_append, regRows, regRows, regRows_append a b (n + 1), List.append_assoc, List.length_cons, show n + 1 + a.length = n + (a.length + 1) by omega]
theorem regRows_take {l : List Nat} {k : Nat} (h : k < l.length) : regRows (l.take (k + 1)) 0 = regRows (l.take k) 0 ++ (if l[k] = 0 then [] else [flat ((1, kwReg) :: psReg k l[k])]) := by
 rw [← List.take_append_getElem h, regRows_append, List.length_take, Nat.min_eq_left (by omega), Nat.zero_add]
 simp [regRows]
theorem L10_regs_le (l : List Nat) (k : Nat) : (L10 (regRows (l.take k) 0)).length ≤ (L10 (regRows l 0)).length := by
 conv => rhs; rw [← List.take_append_drop k l, regRows_append, L10_append, List.length_append]
 omega
theorem L10_map_le {α : Type} (f : α → List UInt8) (l : List α) (k : Nat) : (L10 ((l.take k).map f)).length ≤ (L10 (l.map f)).length := by
 conv => rhs; rw [← List.take_append_drop k l, List.map_append, L10_append, List.length_append]
 omega
theorem L10_map_take {α : Type} (f : α → List UInt8) {l : List α} {k : Nat} (h : k < l.length) : L10 ((l.take (k + 1)).map f) = L10 ((l.take k).map f) ++ (f l[k] ++ [10]) := by
 rw [← List.take_append_getElem h, List.map_append, L10_append, List.map_singleton, L10_one]
theorem coresRows_append : ∀ (a b : List CoreA) (n : Nat), coresRows n (a ++ b) = coresRows n a ++ coresRows (n + a.length) b
 | [], b, n => by simp [coresRows]
 | v :: a, b, n => by
  rw [List.cons_append, coresRows, coresRows, coresRows_append a b (n + 1), List.append_assoc, List.length_cons, show n + 1 + a.length = n + (a.length + 1) by omega]
theorem coresRows_take {l : List CoreA} {k : Nat} (h : k < l.length) : coresRows 0 (l.take (k + 1)) = coresRows 0 (l.take k) ++ coreRows k l[k] := by
 rw [← List.take_append_getElem h, coresRows_append, List.length_take, Nat.min_eq_left (by omega), Nat.zero_add]
 simp [coresRows]
theorem L10_cores_le (l : List CoreA) (k : Nat) : (L10 (coresRows 0 (l.take k))).length ≤ (L10 (coresRows 0 l)).length := by
 conv => rhs; rw [← List.take_append_drop k l, coresRows_append, L10_append, List.length_append]
 omega
theorem right_imm {op d n m imm kind : Int} (h : rightP op d n m imm kind) : I64 imm := by
 obtain ⟨ha, hb, hc, hd⟩ := h
 unfold rightA at ha
 unfold rightB at hb
 unfold rightC at hc
 constructor <;> omega
theorem join1 (a : List UInt8) : Lib.join [a] [32] = a := Lib.join_one a [32]
theorem join2 (a b : List UInt8) : Lib.join [a, b] [32] = a ++ ([32] ++ b) := by simp [Lib.join, List.intercalate]
theorem join4 (a b c d : List UInt8) : Lib.join [a, b, c, d] [32] = a ++ ([32] ++ (b ++ ([32] ++ (c ++ ([32] ++ d))))) := by simp [Lib.join, List.intercalate]
theorem join6 (a b c d e f : List UInt8) : Lib.join [a, b, c, d, e, f] [32] = a ++ ([32] ++ (b ++ ([32] ++ (c ++ ([32] ++ (d ++ ([32] ++ (e ++ ([32] ++ f))))))))) := by simp [Lib.join, List.intercalate]
end
end Go.Proofs.YtmnojnopejhebaaGreat
