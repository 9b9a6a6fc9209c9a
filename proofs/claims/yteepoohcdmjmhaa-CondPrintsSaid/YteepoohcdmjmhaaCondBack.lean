/- A condition's text is read as the condition: plain. -/
import Derived.Test.YteepoohcdmjmhaaCondLex
import Derived.Test.YteepoohcdmjmhaaCondRPrint
import Derived.Test.YteepoohcdmjmhaaCondClean
namespace Go.Proofs.Yteepoohcdmjmhaa
open Go.RowKit
set_option linter.unusedVariables false
set_option linter.unusedSimpArgs false

/-- Conditions that may be, by their sorts. -/
inductive RT : CT → Prop
  | reg (c r : Int) (a v : Nat) (hc : 0 ≤ c ∧ c < 4) (hr : 0 ≤ r ∧ r < 31) (hv : v < 18446744073709551616) : RT (.mk 1 c r a v [])
  | cell (c r : Int) (a v : Nat) (ha : a < 18446744073709551616) (hv : v < 18446744073709551616) : RT (.mk 2 c r a v [])
  | flt (c r : Int) (a v : Nat) (hc : 0 ≤ c ∧ c < 4) (hv : v < 18446744073709551616) : RT (.mk 3 c r a v [])
  | tru (c r : Int) (a v : Nat) : RT (.mk 7 c r a v [])
  | not (c r : Int) (a v : Nat) {x : CT} (hx : RT x) : RT (.mk 6 c r a v [x])
  | and (c r : Int) (a v : Nat) {x y : CT} (hx : RT x) (hy : RT y) : RT (.mk 4 c r a v [x, y])
  | or (c r : Int) (a v : Nat) {x y : CT} (hx : RT x) (hy : RT y) : RT (.mk 5 c r a v [x, y])
theorem rt_of : ∀ t : CT, t.Fits → rightT 4 t = 0 → RT t := by
  intro t
  refine CT.ind (P := fun t => t.Fits → rightT 4 t = 0 → RT t) ?_ t
  intro k c r a v args IH hf hr
  obtain ⟨hh, hra⟩ := right0 hr
  obtain ⟨hk, hw, h1, h2⟩ := head0 hh
  cases hf with
  | mk hn ha =>
    obtain ⟨n1, n2, n3, n4, n5⟩ := hn
    have hk' : k = 1 ∨ k = 2 ∨ k = 3 ∨ k = 4 ∨ k = 5 ∨ k = 6 ∨ k = 7 := by omega
    rcases hk' with rfl | rfl | rfl | rfl | rfl | rfl | rfl
    · obtain rfl : args = [] := List.length_eq_zero_iff.1 (by have : wantN 1 = 0 := rfl; omega)
      exact .reg c r a v (h2 (.inl rfl)) (h1 rfl) n2
    · obtain rfl : args = [] := List.length_eq_zero_iff.1 (by have : wantN 2 = 0 := rfl; omega)
      exact .cell c r a v n1 n2
    · obtain rfl : args = [] := List.length_eq_zero_iff.1 (by have : wantN 3 = 0 := rfl; omega)
      exact .flt c r a v (h2 (.inr rfl)) n2
    · obtain ⟨x, y, rfl⟩ := list2 (show args.length = 2 by have : wantN 4 = 2 := rfl; omega)
      exact .and c r a v (IH x (by simp) (ha x (by simp)) (hra x (by simp))) (IH y (by simp) (ha y (by simp)) (hra y (by simp)))
    · obtain ⟨x, y, rfl⟩ := list2 (show args.length = 2 by have : wantN 5 = 2 := rfl; omega)
      exact .or c r a v (IH x (by simp) (ha x (by simp)) (hra x (by simp))) (IH y (by simp) (ha y (by simp)) (hra y (by simp)))
    · obtain ⟨x, rfl⟩ := List.length_eq_one_iff.1 (show args.length = 1 by have : wantN 6 = 1 := rfl; omega)
      exact .not c r a v (IH x (by simp) (ha x (by simp)) (hra x (by simp)))
    · obtain rfl : args = [] := List.length_eq_zero_iff.1 (by have : wantN 7 = 0 := rfl; omega)
      exact .tru c r a v

/-! Its pieces. -/
def innP (n : Nat) (x : Nat × List Pc) : List Pc := if x.1 < n then (3, [40]) :: (x.2 ++ [(3, [41])]) else x.2
def pcA (k : Int) : List (Nat × List Pc) → List Pc
  | [x] => (3, [126]) :: innP 3 x
  | [x, y] => if k = 4 then innP 2 x ++ (0, [32]) :: (3, [47, 92]) :: (0, [32]) :: innP 3 y else innP 1 x ++ (0, [32]) :: (3, [92, 47]) :: (0, [32]) :: innP 2 y
  | _ => []
def pcN (k c r : Int) (a v : Nat) (ps : List (Nat × List Pc)) : List Pc :=
  if k = 1 then [(2, intL c), (3, [58]), (1, regL r), (3, [61]), (2, hexL v)]
  else if k = 2 then [(3, [91]), (2, hexL a), (3, [93]), (3, [61]), (2, hexL v)]
  else if k = 3 then [(1, [102, 97, 117, 108, 116, 115]), (0, [32]), (2, intL c), (3, [61]), (2, hexL v)]
  else if k = 7 then [(1, [116, 114, 117, 101])]
  else pcA k ps
mutual
def pcT : CT → List Pc
  | .mk k c r a v args => pcN k c r a v (pcL args)
def pcL : List CT → List (Nat × List Pc)
  | [] => []
  | t :: ts => (levelT t, pcT t) :: pcL ts
end
mutual
def normT : CT → CT
  | .mk k c r a v args => if k = 1 then .mk 1 c r 0 v [] else if k = 2 then .mk 2 0 0 a v [] else if k = 3 then .mk 3 c 0 0 v [] else .mk k 0 0 0 0 (normL args)
def normL : List CT → List CT
  | [] => []
  | t :: ts => normT t :: normL ts
end
theorem flat_inn (n : Nat) (l : Nat) (ps : List Pc) : flat (innP n (l, ps)) = innerL n (l, flat ps) := by
  unfold innP innerL
  split <;> simp [flat]
theorem flat_pcT {t : CT} (h : RT t) : flat (pcT t) = printT t := by
  induction h with
  | reg c r a v hc hr hv => simp [pcT, pcN, printT, nodeL, nodeX, flat]
  | cell c r a v ha hv => simp [pcT, pcN, printT, nodeL, nodeX, flat]
  | flt c r a v hc hv => simp [pcT, pcN, printT, nodeL, nodeX, flat]
  | tru c r a v => simp [pcT, pcN, printT, nodeL, nodeX, flat]
  | not c r a v hx ih =>
    rename_i x
    rw [pcT, printT, pcL, pcL, printL, printL]
    show flat ((3, [126]) :: innP 3 (levelT x, pcT x)) = [126] ++ innerL 3 (levelT x, printT x)
    rw [flat_cons, flat_inn, ih]
  | and c r a v hx hy ihx ihy =>
    rename_i x y
    rw [pcT, printT, pcL, pcL, pcL, printL, printL, printL]
    show flat (innP 2 (levelT x, pcT x) ++ (0, [32]) :: (3, [47, 92]) :: (0, [32]) :: innP 3 (levelT y, pcT y)) = innerL 2 (levelT x, printT x) ++ [32, 47, 92, 32] ++ innerL 3 (levelT y, printT y)
    rw [flat_append, flat_cons, flat_cons, flat_cons, flat_inn, flat_inn, ihx, ihy]
    simp
  | or c r a v hx hy ihx ihy =>
    rename_i x y
    rw [pcT, printT, pcL, pcL, pcL, printL, printL, printL]
    show flat (innP 1 (levelT x, pcT x) ++ (0, [32]) :: (3, [92, 47]) :: (0, [32]) :: innP 2 (levelT y, pcT y)) = innerL 1 (levelT x, printT x) ++ [32, 92, 47, 32] ++ innerL 2 (levelT y, printT y)
    rw [flat_append, flat_cons, flat_cons, flat_cons, flat_inn, flat_inn, ihx, ihy]
    simp

theorem reg_names : ∀ r, r < 31 → (regL (r : Nat)).all letU = true ∧ (regL (r : Nat)).length ≤ 24 ∧ (regL (r : Nat)).head? = some 88 ∧ regN (ba (regL (r : Nat))) = some r := by decide +kernel
theorem core_texts : ∀ c, c < 4 → intL (c : Nat) = [48 + UInt8.ofNat c] := by decide +kernel
theorem hex_letters (v : Nat) (hv : v < 18446744073709551616) : (hexL v).all letU = true ∧ (hexL v).length ≤ 24 ∧ hexL v = 48 :: 120 :: txt 16 v ∧ (parseL (hexL v)) = (v, 0) := by
  obtain ⟨h1, _, _⟩ := txt_digits 16 (by decide) (by decide) (v + 1) v (by omega)
  have hl := txt_len 16 (by decide) 15 v (by omega)
  refine ⟨?_, by unfold hexL; simp; omega, rfl, hex_parse v hv⟩
  unfold hexL
  rw [List.all_append, Bool.and_eq_true]
  refine ⟨by decide +kernel, List.all_eq_true.2 fun c hc => ?_⟩
  obtain ⟨d, hd, rfl⟩ := h1 c hc
  have : ∀ d, d < 16 → letU (dg d) = true := by decide +kernel
  exact this d hd
theorem pc_hex (v : Nat) (hv : v < 18446744073709551616) : pcOK (2, hexL v) := by
  obtain ⟨h1, h2, h3, h4⟩ := hex_letters v hv
  exact .inr (.inr (.inr ⟨rfl, h1, h2, ⟨48, 120 :: txt 16 v, h3, by decide +kernel⟩, by rw [h4]⟩))
theorem pc_core {c : Int} (hc : 0 ≤ c ∧ c < 4) : pcOK (2, intL c) := by
  obtain ⟨n, rfl⟩ := Int.eq_ofNat_of_zero_le hc.1
  have : ∀ n, n < 4 → (intL (n : Nat)).all letU = true ∧ (intL (n : Nat)).length ≤ 24 ∧ (parseL (intL (n : Nat))).2 = 0 ∧ digitB ((48 + UInt8.ofNat n).toNat : Int) = true := by decide +kernel
  obtain ⟨h1, h2, h3, h4⟩ := this n (by omega)
  exact .inr (.inr (.inr ⟨rfl, h1, h2, ⟨_, [], core_texts n (by omega), h4⟩, h3⟩))
theorem pc_reg {r : Int} (hr : 0 ≤ r ∧ r < 31) : pcOK (1, regL r) := by
  obtain ⟨n, rfl⟩ := Int.eq_ofNat_of_zero_le hr.1
  obtain ⟨h1, h2, h3, h4⟩ := reg_names n (by omega)
  refine .inr (.inr (.inl ⟨rfl, h1, h2, ?_⟩))
  cases hx : regL (n : Nat) with
  | nil => rw [hx] at h3; cases h3
  | cons c l =>
    rw [hx] at h3
    obtain rfl : c = 88 := by simpa using h3
    exact ⟨88, l, rfl, by decide +kernel⟩
theorem pc_sign {b : List UInt8} (h : b ∈ signL) : pcOK (3, b) := .inr (.inl ⟨rfl, h⟩)
theorem pc_blank : pcOK (0, [32]) := .inl ⟨rfl, rfl⟩
def Cont (ps : List Pc) : Prop := ∀ rest : List Pc, okPs rest → startsOK (flat rest) = true → okPs (ps ++ rest)
theorem ok_inn {ps : List Pc} (h : Cont ps) (n l : Nat) : Cont (innP n (l, ps)) := by
  intro rest h1 h2
  unfold innP
  split
  · refine ⟨pc_sign (by simp [signL]), fun h => by simp at h, ?_⟩
    show okPs (ps ++ [(3, [41])] ++ rest)
    rw [List.append_assoc]
    exact h _ ⟨pc_sign (by simp [signL]), fun h => by simp at h, h1⟩ (by decide +kernel : startsOK (41 :: []) = true)
  · exact h rest h1 h2
theorem ok_pcT {t : CT} (h : RT t) : Cont (pcT t) := by
  induction h with
  | reg c r a v hc hr hv =>
    intro rest h1 h2
    exact ⟨pc_core hc, fun _ => (by decide +kernel : startsOK (58 :: []) = true), pc_sign (by simp [signL]), fun h => by simp at h, pc_reg hr, fun _ => (by decide +kernel : startsOK (61 :: []) = true), pc_sign (by simp [signL]), fun h => by simp at h, pc_hex v hv, fun _ => h2, h1⟩
  | cell c r a v ha hv =>
    intro rest h1 h2
    exact ⟨pc_sign (by simp [signL]), fun h => by simp at h, pc_hex a ha, fun _ => (by decide +kernel : startsOK (93 :: []) = true), pc_sign (by simp [signL]), fun h => by simp at h, pc_sign (by simp [signL]), fun h => by simp at h, pc_hex v hv, fun _ => h2, h1⟩
  | flt c r a v hc hv =>
    intro rest h1 h2
    exact ⟨.inr (.inr (.inl ⟨rfl, by decide +kernel, by decide, 102, _, rfl, by decide +kernel⟩)), fun _ => (by decide +kernel : startsOK (32 :: []) = true), pc_blank, fun h => by simp at h, pc_core hc, fun _ => (by decide +kernel : startsOK (61 :: []) = true), pc_sign (by simp [signL]), fun h => by simp at h, pc_hex v hv, fun _ => h2, h1⟩
  | tru c r a v =>
    intro rest h1 h2
    exact ⟨.inr (.inr (.inl ⟨rfl, by decide +kernel, by decide, 116, _, rfl, by decide +kernel⟩)), fun _ => h2, h1⟩
  | not c r a v hx ih =>
    rename_i x
    intro rest h1 h2
    rw [pcT, pcL, pcL]
    exact ⟨pc_sign (by simp [signL]), fun h => by simp at h, ok_inn ih 3 _ rest h1 h2⟩
  | and c r a v hx hy ihx ihy =>
    rename_i x y
    intro rest h1 h2
    rw [pcT, pcL, pcL, pcL]
    show okPs ((innP 2 (levelT x, pcT x) ++ (0, [32]) :: (3, [47, 92]) :: (0, [32]) :: innP 3 (levelT y, pcT y)) ++ rest)
    rw [List.append_assoc]
    exact ok_inn ihx 2 _ _ ⟨pc_blank, fun h => by simp at h, pc_sign (by simp [signL]), fun h => by simp at h, pc_blank, fun h => by simp at h, ok_inn ihy 3 _ rest h1 h2⟩ (by decide +kernel : startsOK (32 :: []) = true)
  | or c r a v hx hy ihx ihy =>
    rename_i x y
    intro rest h1 h2
    rw [pcT, pcL, pcL, pcL]
    show okPs ((innP 1 (levelT x, pcT x) ++ (0, [32]) :: (3, [92, 47]) :: (0, [32]) :: innP 2 (levelT y, pcT y)) ++ rest)
    rw [List.append_assoc]
    exact ok_inn ihx 1 _ _ ⟨pc_blank, fun h => by simp at h, pc_sign (by simp [signL]), fun h => by simp at h, pc_blank, fun h => by simp at h, ok_inn ihy 2 _ rest h1 h2⟩ (by decide +kernel : startsOK (32 :: []) = true)

/-! Its tokens are read. -/
abbrev KT := Int × ByteArray
def tkP (ps : List Pc) : List KT := (ps.filter fun p => decide (¬ p.1 = 0)).map kp
def tT (t : CT) : List KT := tkP (pcT t)
def tI (n : Nat) (t : CT) : List KT := tkP (innP n (levelT t, pcT t))
theorem tkP_append (a b : List Pc) : tkP (a ++ b) = tkP a ++ tkP b := by simp [tkP]
theorem tI_in {n : Nat} {t : CT} (h : levelT t < n) : tI n t = (3, ba [40]) :: (tT t ++ [(3, ba [41])]) := by
  unfold tI innP
  rw [if_pos h]
  show (3, ba [40]) :: tkP (pcT t ++ [(3, [41])]) = _
  rw [tkP_append]; rfl
theorem tI_out {n : Nat} {t : CT} (h : ¬ levelT t < n) : tI n t = tT t := by
  unfold tI innP
  rw [if_neg h]; rfl
theorem tT_and (c r : Int) (a v : Nat) (x y : CT) : tT (.mk 4 c r a v [x, y]) = tI 2 x ++ (3, ba [47, 92]) :: tI 3 y := by
  show tkP (innP 2 (levelT x, pcT x) ++ (0, [32]) :: (3, [47, 92]) :: (0, [32]) :: innP 3 (levelT y, pcT y)) = _
  rw [tkP_append]; rfl
theorem tT_or (c r : Int) (a v : Nat) (x y : CT) : tT (.mk 5 c r a v [x, y]) = tI 1 x ++ (3, ba [92, 47]) :: tI 2 y := by
  show tkP (innP 1 (levelT x, pcT x) ++ (0, [32]) :: (3, [92, 47]) :: (0, [32]) :: innP 2 (levelT y, pcT y)) = _
  rw [tkP_append]; rfl
theorem tT_not (c r : Int) (a v : Nat) (x : CT) : tT (.mk 6 c r a v [x]) = (3, ba [126]) :: tI 3 x := rfl
theorem tT_pos {t : CT} (h : RT t) : 1 ≤ (tT t).length := by
  cases h with
  | reg => simp [tT, tkP, pcT, pcN, pcL]
  | cell => simp [tT, tkP, pcT, pcN, pcL]
  | flt => simp [tT, tkP, pcT, pcN, pcL]
  | tru => simp [tT, tkP, pcT, pcN, pcL]
  | not => rw [tT_not]; simp
  | and => rw [tT_and]; simp; omega
  | or => rw [tT_or]; simp; omega
section
variable {tk : List Tk} {k : Nat} {A : Int} {x : KT} {xs : List KT}
theorem pk_at (h : (tk.map kt).drop k = x :: xs) : (peekR tk ⟨k, 0, A⟩).1 = x.1 ∧ (peekR tk ⟨k, 0, A⟩).2.1 = x.2 ∧ (tk.map kt).drop (k + 1) = xs := by
  have hk : k < (tk.map kt).length := by
    rcases Nat.lt_or_ge k (tk.map kt).length with h' | h'
    · exact h'
    · rw [List.drop_eq_nil_of_le h'] at h; cases h
  have h1 := List.drop_eq_getElem_cons hk
  rw [h] at h1
  injection h1 with h1 h2
  have hk' : k < tk.length := by simpa using hk
  have hp : peekR tk ⟨k, 0, A⟩ = tk[k] := by unfold peekR; simp [List.getD_eq_getElem?_getD, hk']
  rw [hp, h1]
  refine ⟨by simp [kt], by simp [kt], h2.symm⟩
theorem pk_nil (h : (tk.map kt).drop k = []) : peekR tk ⟨k, 0, A⟩ = (4, ByteArray.empty, 0) := by
  refine peek_out ?_
  have := List.drop_eq_nil_iff.1 h
  simp at this
  show ¬ k < tk.length
  omega
theorem is_at (h : (tk.map kt).drop k = x :: xs) (kd : Int) (tx : ByteArray) : isR tk ⟨k, 0, A⟩ kd tx = (decide (x.1 = kd) && decide (x.2 = tx)) := by
  obtain ⟨h1, h2, _⟩ := pk_at (A := A) h
  unfold isR; rw [h1, h2]
theorem next_at (h : (tk.map kt).drop k = x :: xs) (h4 : ¬ x.1 = 4) : nextR tk ⟨k, 0, A⟩ = ⟨k + 1, 0, A⟩ := by
  obtain ⟨h1, h2, _⟩ := pk_at (A := A) h
  unfold nextR; rw [h1, if_neg h4]; rfl
theorem must_at (h : (tk.map kt).drop k = x :: xs) (h4 : ¬ x.1 = 4) : mustR tk ⟨k, 0, A⟩ x.1 x.2 = ⟨k + 1, 0, A⟩ := by
  unfold mustR; rw [is_at h, decide_eq_true rfl, decide_eq_true rfl]
  exact next_at h h4
theorem number_at {l : List UInt8} {n : Nat} (h : (tk.map kt).drop k = (2, ba l) :: xs) (hn : parseL l = (n, 0)) : numberR tk ⟨k, 0, A⟩ = (n, ⟨k + 1, 0, A⟩) := by
  obtain ⟨h1, h2, _⟩ := pk_at (A := A) h
  have hq : numT (ba l) = (n, 0) := hn
  unfold numberR; rw [h1, h2, hq, if_pos ⟨rfl, rfl⟩, next_at h (by simp)]
theorem small_at {l : List UInt8} {n most : Nat} (h : (tk.map kt).drop k = (2, ba l) :: xs) (hn : parseL l = (n, 0)) (hm : n < most) : smallR tk ⟨k, 0, A⟩ most = (n, ⟨k + 1, 0, A⟩) := by
  obtain ⟨h1, h2, _⟩ := pk_at (A := A) h
  have hq : numT (ba l) = (n, 0) := hn
  unfold smallR; rw [h1, h2, hq, if_neg (by rintro ⟨_, _, h3⟩; omega)]
  exact number_at h hn
theorem value_at {v : Nat} (hv : v < 18446744073709551616) (h : (tk.map kt).drop k = (3, ba [61]) :: (2, ba (hexL v)) :: xs) : valueR tk ⟨k, 0, A⟩ = (v, ⟨k + 2, 0, A⟩) := by
  unfold valueR
  have e : mustR tk ⟨k, 0, A⟩ 3 ⟨#[61]⟩ = ⟨k + 1, 0, A⟩ := must_at h (by simp)
  rw [e]
  exact number_at (pk_at (A := A) h).2.2 (hex_letters v hv).2.2.2
theorem more_at {m : Nat} (h : m + 1 ≤ 64) : moreR tk ⟨k, 0, A⟩ m = ⟨k, 0, A⟩ := by unfold moreR; rw [if_neg (by omega)]
end
theorem core_parse {c : Int} (hc : 0 ≤ c ∧ c < 4) : ∃ n : Nat, c = (n : Int) ∧ n < 4 ∧ parseL (intL c) = (n, 0) := by
  obtain ⟨n, rfl⟩ := Int.eq_ofNat_of_zero_le hc.1
  have : ∀ n, n < 4 → parseL (intL (n : Nat)) = (n, 0) := by decide +kernel
  exact ⟨n, rfl, by omega, this n (by omega)⟩
/-- Reading it from a place on. -/
def Res (tk : List Tk) (y : CT × RS × Nat) (t : CT) (k : Nat) (A : Int) (n m : Nat) : Prop := y = (normT t, ⟨k + n, 0, A⟩, m + countT t)
def OneAt (t : CT) (ts : List KT) : Prop := ∀ (tk : List Tk) (k : Nat) (A : Int) (m f : Nat) (rest : List KT), (tk.map kt).drop k = ts ++ rest → m + countT t ≤ 64 → 3 * ts.length + 1 ≤ f →
  parseF tk f .one ⟨k, 0, A⟩ m = (normT t, ⟨k + ts.length, 0, A⟩, m + countT t)
def notIs (rest : List KT) (x : KT) : Prop := ∀ y ys, rest = y :: ys → ¬ y = x
def BothAt (t : CT) (ts : List KT) : Prop := ∃ e, 1 ≤ e ∧ e ≤ ts.length ∧ ∀ (tk : List Tk) (k : Nat) (A : Int) (m f : Nat) (rest : List KT), (tk.map kt).drop k = ts ++ rest → m + countT t ≤ 64 → 3 * ts.length + 2 ≤ f + e →
  parseF tk (f + e) .both ⟨k, 0, A⟩ m = parseF tk f (.bothL (normT t)) ⟨k + ts.length, 0, A⟩ (m + countT t)
def EitherAt (t : CT) (ts : List KT) : Prop := ∃ e, 1 ≤ e ∧ e ≤ ts.length ∧ ∀ (tk : List Tk) (k : Nat) (A : Int) (m f : Nat) (rest : List KT), (tk.map kt).drop k = ts ++ rest → notIs rest (3, ba [47, 92]) → m + countT t ≤ 64 → 3 * ts.length + 3 ≤ f + e →
  parseF tk (f + e) .either ⟨k, 0, A⟩ m = parseF tk f (.eitherL (normT t)) ⟨k + ts.length, 0, A⟩ (m + countT t)
theorem drop_add {l ts rest : List KT} {k : Nat} (h : l.drop k = ts ++ rest) : l.drop (k + ts.length) = rest := by
  rw [← List.drop_drop, h, List.drop_left]
theorem not_is {tk : List Tk} {k : Nat} {A : Int} {rest : List KT} (h : (tk.map kt).drop k = rest) {tx : ByteArray} (hn : notIs rest (3, tx)) : isR tk ⟨k, 0, A⟩ 3 tx = false := by
  cases rest with
  | nil => unfold isR; rw [pk_nil h]; rfl
  | cons y ys =>
    rw [is_at h]
    have := hn y ys rfl
    by_cases h1 : y.1 = 3
    · have h2 : ¬ y.2 = tx := fun e => this (by rw [← h1, ← e])
      rw [decide_eq_false h2]; simp
    · rw [decide_eq_false h1]; rfl
theorem both_done {t : CT} {ts : List KT} (h : BothAt t ts) {tk : List Tk} {k : Nat} {A : Int} {m f : Nat} {rest : List KT} (hd : (tk.map kt).drop k = ts ++ rest) (hn : notIs rest (3, ba [47, 92])) (hm : m + countT t ≤ 64) (hf : 3 * ts.length + 2 ≤ f) :
    parseF tk f .both ⟨k, 0, A⟩ m = (normT t, ⟨k + ts.length, 0, A⟩, m + countT t) := by
  obtain ⟨e, h1, h2, h3⟩ := h
  obtain ⟨g, rfl⟩ : ∃ g, f = (g + 1) + e := ⟨f - e - 1, by omega⟩
  rw [h3 tk k A m (g + 1) rest hd hm hf, parseF]
  rw [show isR tk ⟨k + ts.length, 0, A⟩ 3 ⟨#[47, 92]⟩ = false from not_is (drop_add hd) hn]
  simp
theorem either_done {t : CT} {ts : List KT} (h : EitherAt t ts) {tk : List Tk} {k : Nat} {A : Int} {m f : Nat} {rest : List KT} (hd : (tk.map kt).drop k = ts ++ rest) (hn : notIs rest (3, ba [47, 92])) (hn2 : notIs rest (3, ba [92, 47])) (hm : m + countT t ≤ 64) (hf : 3 * ts.length + 3 ≤ f) :
    parseF tk f .either ⟨k, 0, A⟩ m = (normT t, ⟨k + ts.length, 0, A⟩, m + countT t) := by
  obtain ⟨e, h1, h2, h3⟩ := h
  obtain ⟨g, rfl⟩ : ∃ g, f = (g + 1) + e := ⟨f - e - 1, by omega⟩
  rw [h3 tk k A m (g + 1) rest hd hn hm hf, parseF]
  rw [show isR tk ⟨k + ts.length, 0, A⟩ 3 ⟨#[92, 47]⟩ = false from not_is (drop_add hd) hn2]
  simp
theorem notIs_cons {x y : KT} {l : List KT} (h : ¬ y = x) : notIs (y :: l) x := by
  intro a b e; injection e with e1 e2; rw [← e1]; exact h
theorem ne_kt {b c : List UInt8} (h : ¬ b = c) : ¬ ((3 : Int), ba b) = (3, ba c) := fun e => h (by
  have h1 := congrArg (fun x : KT => x.2.data.toList) e
  exact h1)
theorem one_paren {t : CT} (h : EitherAt t (tT t)) : OneAt t ((3, ba [40]) :: (tT t ++ [(3, ba [41])])) := by
  intro tk k A m f rest hd hm hf
  obtain ⟨g, rfl⟩ : ∃ g, f = g + 1 := ⟨f - 1, by omega⟩
  simp only [List.length_cons, List.length_append, List.length_nil] at hf ⊢
  simp only [List.cons_append, List.append_assoc] at hd
  have hd1 := (pk_at (A := A) hd).2.2
  rw [parseF, show isR tk ⟨k, 0, A⟩ 3 ⟨#[40]⟩ = true from by rw [is_at hd]; rfl, next_at hd (by simp)]
  have he := either_done h (A := A) (m := m) (f := g) hd1 (notIs_cons (ne_kt (by decide))) (notIs_cons (ne_kt (by decide))) hm (by omega)
  have hd2 := drop_add hd1
  have hmm : mustR tk ⟨k + 1 + (tT t).length, 0, A⟩ 3 ⟨#[41]⟩ = ⟨k + 1 + (tT t).length + 1, 0, A⟩ := must_at hd2 (by simp)
  simp only [okR, decide_true, Bool.and_self, if_true, he, hmm]
  rw [show k + 1 + (tT t).length + 1 = k + ((tT t).length + (0 + 1) + 1) by omega]
theorem both_one {t : CT} {ts : List KT} (hl : 1 ≤ ts.length) (h : OneAt t ts) : BothAt t ts := by
  refine ⟨1, by omega, hl, fun tk k A m f rest hd hm hf => ?_⟩
  rw [parseF, h tk k A m f rest hd hm (by omega)]
theorem either_both {t : CT} {ts : List KT} (h : BothAt t ts) : EitherAt t ts := by
  have h' := h
  obtain ⟨e, h1, h2, _⟩ := h'
  refine ⟨1, by omega, by omega, fun tk k A m f rest hd hn hm hf => ?_⟩
  rw [parseF, both_done h hd hn hm (by omega)]
theorem level_pos (x : CT) : ¬ levelT x < 1 := by
  obtain ⟨k, c, r, a, v, args⟩ := x
  rw [levelT]
  split
  · omega
  · split <;> omega
theorem one_leaf {tk : List Tk} {k : Nat} {A : Int} {m f : Nat} {x : KT} {xs : List KT} (hd : (tk.map kt).drop k = x :: xs) (h1 : ¬ x = (3, ba [40])) (h2 : ¬ x = (3, ba [126])) (hm : m + 1 ≤ 64) :
    parseF tk (f + 1) .one ⟨k, 0, A⟩ m = ((leafR tk ⟨k, 0, A⟩).1, (leafR tk ⟨k, 0, A⟩).2, m + 1) := by
  have q1 : isR tk ⟨k, 0, A⟩ 3 ⟨#[40]⟩ = false := not_is hd (notIs_cons h1)
  have q2 : isR tk ⟨k, 0, A⟩ 3 ⟨#[126]⟩ = false := not_is hd (notIs_cons h2)
  rw [parseF, q1, more_at hm, q2]
  simp [okR]
theorem leaf_cell {tk : List Tk} {k : Nat} {A : Int} {a v : Nat} (ha : a < 18446744073709551616) (hv : v < 18446744073709551616) {rest : List KT} (hd : (tk.map kt).drop k = (3, ba [91]) :: (2, ba (hexL a)) :: (3, ba [93]) :: (3, ba [61]) :: (2, ba (hexL v)) :: rest) :
    leafR tk ⟨k, 0, A⟩ = (.mk 2 0 0 a v [], ⟨k + 5, 0, A⟩) := by
  have d1 := (pk_at (A := A) hd).2.2
  have d2 := (pk_at (A := A) d1).2.2
  have d3 := (pk_at (A := A) d2).2.2
  have m2 : mustR tk ⟨k + 1 + 1, 0, A⟩ 3 ⟨#[93]⟩ = ⟨k + 1 + 1 + 1, 0, A⟩ := must_at d2 (by simp)
  unfold leafR
  rw [show isR tk ⟨k, 0, A⟩ 3 ⟨#[91]⟩ = true from by rw [is_at hd]; rfl, next_at hd (by simp), number_at d1 (hex_letters a ha).2.2.2]
  simp only [if_true, m2, value_at hv d3]
theorem leaf_tru {tk : List Tk} {k : Nat} {A : Int} {rest : List KT} (hd : (tk.map kt).drop k = (1, ba [116, 114, 117, 101]) :: rest) :
    leafR tk ⟨k, 0, A⟩ = (.mk 7 0 0 0 0 [], ⟨k + 1, 0, A⟩) := by
  unfold leafR
  rw [show isR tk ⟨k, 0, A⟩ 3 ⟨#[91]⟩ = false from by rw [is_at hd]; rfl, show isR tk ⟨k, 0, A⟩ 1 ⟨#[116, 114, 117, 101]⟩ = true from by rw [is_at hd]; rfl, next_at hd (by simp)]
  simp
theorem leaf_flt {tk : List Tk} {k : Nat} {A : Int} {c : Int} {v : Nat} (hc : 0 ≤ c ∧ c < 4) (hv : v < 18446744073709551616) {rest : List KT} (hd : (tk.map kt).drop k = (1, ba [102, 97, 117, 108, 116, 115]) :: (2, ba (intL c)) :: (3, ba [61]) :: (2, ba (hexL v)) :: rest) :
    leafR tk ⟨k, 0, A⟩ = (.mk 3 c 0 0 v [], ⟨k + 4, 0, A⟩) := by
  have d1 := (pk_at (A := A) hd).2.2
  have d2 := (pk_at (A := A) d1).2.2
  obtain ⟨n, rfl, hn, hp⟩ := core_parse hc
  unfold leafR
  rw [show isR tk ⟨k, 0, A⟩ 3 ⟨#[91]⟩ = false from by rw [is_at hd]; rfl, show isR tk ⟨k, 0, A⟩ 1 ⟨#[116, 114, 117, 101]⟩ = false from by rw [is_at hd]; rfl, show isR tk ⟨k, 0, A⟩ 1 ⟨#[102, 97, 117, 108, 116, 115]⟩ = true from by rw [is_at hd]; rfl, next_at hd (by simp), small_at d1 hp hn]
  simp only [if_true, value_at hv d2]
  simp
theorem leaf_reg {tk : List Tk} {k : Nat} {A : Int} {c r : Int} {v : Nat} (hc : 0 ≤ c ∧ c < 4) (hr : 0 ≤ r ∧ r < 31) (hv : v < 18446744073709551616) {rest : List KT} (hd : (tk.map kt).drop k = (2, ba (intL c)) :: (3, ba [58]) :: (1, ba (regL r)) :: (3, ba [61]) :: (2, ba (hexL v)) :: rest) :
    leafR tk ⟨k, 0, A⟩ = (.mk 1 c r 0 v [], ⟨k + 5, 0, A⟩) := by
  have d1 := (pk_at (A := A) hd).2.2
  have d2 := (pk_at (A := A) d1).2.2
  have d3 := (pk_at (A := A) d2).2.2
  obtain ⟨n, rfl, hn, hp⟩ := core_parse hc
  obtain ⟨j, rfl⟩ := Int.eq_ofNat_of_zero_le hr.1
  have hj := (reg_names j (by omega)).2.2.2
  obtain ⟨p1, p2, _⟩ := pk_at (A := A) d2
  have m1 : mustR tk ⟨k + 1, 0, A⟩ 3 ⟨#[58]⟩ = ⟨k + 1 + 1, 0, A⟩ := must_at d1 (by simp)
  have hreg : regR tk ⟨k + 1 + 1, 0, A⟩ = ⟨k + 1 + 1, 0, A⟩ := by
    unfold regR; rw [p1, p2, hj, if_neg]
    rintro (h | h | h)
    · cases h
    · injection h with h; omega
    · exact h rfl
  unfold leafR
  rw [show isR tk ⟨k, 0, A⟩ 3 ⟨#[91]⟩ = false from by rw [is_at hd]; rfl, show isR tk ⟨k, 0, A⟩ 1 ⟨#[116, 114, 117, 101]⟩ = false from by rw [is_at hd]; rfl, show isR tk ⟨k, 0, A⟩ 1 ⟨#[102, 97, 117, 108, 116, 115]⟩ = false from by rw [is_at hd]; rfl, small_at hd hp hn]
  simp only [Bool.false_eq_true, if_false, m1, hreg, p2, hj, next_at d2 (by simp), value_at hv d3, Option.getD_some]
theorem read_all {t : CT} (h : RT t) : EitherAt t (tT t) ∧ (2 ≤ levelT t → BothAt t (tT t)) ∧ (3 ≤ levelT t → OneAt t (tT t)) := by
  have up : ∀ t : CT, 1 ≤ (tT t).length → OneAt t (tT t) → EitherAt t (tT t) ∧ (2 ≤ levelT t → BothAt t (tT t)) ∧ (3 ≤ levelT t → OneAt t (tT t)) := fun t hl ho => ⟨either_both (both_one hl ho), fun _ => both_one hl ho, fun _ => ho⟩
  have inn3 : ∀ x : CT, EitherAt x (tT x) ∧ (2 ≤ levelT x → BothAt x (tT x)) ∧ (3 ≤ levelT x → OneAt x (tT x)) → OneAt x (tI 3 x) := fun x hx => by
    by_cases hl : levelT x < 3
    · rw [tI_in hl]; exact one_paren hx.1
    · rw [tI_out hl]; exact hx.2.2 (by omega)
  have inn2 : ∀ x : CT, EitherAt x (tT x) ∧ (2 ≤ levelT x → BothAt x (tT x)) ∧ (3 ≤ levelT x → OneAt x (tT x)) → BothAt x (tI 2 x) := fun x hx => by
    by_cases hl : levelT x < 2
    · rw [tI_in hl]; exact both_one (by simp) (one_paren hx.1)
    · rw [tI_out hl]; exact hx.2.1 (by omega)
  induction h with
  | reg c r a v hc hr hv =>
    refine up _ (by simp [tT, tkP, pcT, pcN, pcL]) ?_
    intro tk k A m f rest hd hm hf
    have hd' : (tk.map kt).drop k = (2, ba (intL c)) :: (3, ba [58]) :: (1, ba (regL r)) :: (3, ba [61]) :: (2, ba (hexL v)) :: rest := hd
    obtain ⟨g, rfl⟩ : ∃ g, f = g + 1 := ⟨f - 1, by omega⟩
    rw [one_leaf hd' (fun e => by cases congrArg Prod.fst e) (fun e => by cases congrArg Prod.fst e) (by have : countT (.mk 1 c r a v []) = 1 := rfl; omega), leaf_reg hc hr hv hd']
    rfl
  | cell c r a v ha hv =>
    refine up _ (by simp [tT, tkP, pcT, pcN, pcL]) ?_
    intro tk k A m f rest hd hm hf
    have hd' : (tk.map kt).drop k = (3, ba [91]) :: (2, ba (hexL a)) :: (3, ba [93]) :: (3, ba [61]) :: (2, ba (hexL v)) :: rest := hd
    obtain ⟨g, rfl⟩ : ∃ g, f = g + 1 := ⟨f - 1, by omega⟩
    rw [one_leaf hd' (ne_kt (by decide)) (ne_kt (by decide)) (by have : countT (.mk 2 c r a v []) = 1 := rfl; omega), leaf_cell ha hv hd']
    rfl
  | flt c r a v hc hv =>
    refine up _ (by simp [tT, tkP, pcT, pcN, pcL]) ?_
    intro tk k A m f rest hd hm hf
    have hd' : (tk.map kt).drop k = (1, ba [102, 97, 117, 108, 116, 115]) :: (2, ba (intL c)) :: (3, ba [61]) :: (2, ba (hexL v)) :: rest := hd
    obtain ⟨g, rfl⟩ : ∃ g, f = g + 1 := ⟨f - 1, by omega⟩
    rw [one_leaf hd' (fun e => by cases congrArg Prod.fst e) (fun e => by cases congrArg Prod.fst e) (by have : countT (.mk 3 c r a v []) = 1 := rfl; omega), leaf_flt hc hv hd']
    rfl
  | tru c r a v =>
    refine up _ (by simp [tT, tkP, pcT, pcN, pcL]) ?_
    intro tk k A m f rest hd hm hf
    have hd' : (tk.map kt).drop k = (1, ba [116, 114, 117, 101]) :: rest := hd
    obtain ⟨g, rfl⟩ : ∃ g, f = g + 1 := ⟨f - 1, by omega⟩
    rw [one_leaf hd' (fun e => by cases congrArg Prod.fst e) (fun e => by cases congrArg Prod.fst e) (by have : countT (.mk 7 c r a v []) = 1 := rfl; omega), leaf_tru hd']
    rfl
  | not c r a v hx ih =>
    rename_i x
    refine up _ (by rw [tT_not]; simp) ?_
    intro tk k A m f rest hd hm hf
    obtain ⟨g, rfl⟩ : ∃ g, f = g + 1 := ⟨f - 1, by omega⟩
    rw [tT_not] at hd hf ⊢
    simp only [List.length_cons, List.cons_append] at hd hf ⊢
    have hcc : countT (.mk 6 c r a v [x]) = 1 + (countT x + 0) := rfl
    rw [hcc] at hm ⊢
    have hd1 := (pk_at (A := A) hd).2.2
    have hy := inn3 x ih tk (k + 1) A (m + 1) g rest hd1 (by omega) (by omega)
    rw [parseF, show isR tk ⟨k, 0, A⟩ 3 ⟨#[40]⟩ = false from by rw [is_at hd]; rfl, more_at (by omega), show isR tk ⟨k, 0, A⟩ 3 ⟨#[126]⟩ = true from by rw [is_at hd]; rfl, next_at hd (by simp)]
    simp only [okR, decide_true, Bool.and_false, Bool.false_eq_true, if_false, if_true, hy]
    simp only [normT, normL]
    rw [show k + 1 + (tI 3 x).length = k + ((tI 3 x).length + 1) by omega, show m + 1 + countT x = m + (1 + (countT x + 0)) by omega]
    simp
  | and c r a v hx hy ihx ihy =>
    rename_i x y
    have hb : BothAt (.mk 4 c r a v [x, y]) (tT (.mk 4 c r a v [x, y])) := by
      obtain ⟨e, h1, h2, h3⟩ := inn2 x ihx
      have hcc : countT (.mk 4 c r a v [x, y]) = 1 + (countT x + (countT y + 0)) := rfl
      rw [tT_and]
      refine ⟨e + 1, by omega, by simp; omega, fun tk k A m f rest hd hm hf => ?_⟩
      simp only [List.length_cons, List.length_append, List.append_assoc, List.cons_append] at hd hf ⊢
      rw [hcc] at hm ⊢
      have hd1 := drop_add hd
      have hd2 := (pk_at (A := A) hd1).2.2
      have hone := inn3 y ihy tk (k + (tI 2 x).length + 1) A (m + countT x + 1) f rest hd2 (by omega) (by omega)
      rw [show f + (e + 1) = (f + 1) + e by omega, h3 tk k A m (f + 1) _ hd (by omega) (by omega), parseF,
        show isR tk ⟨k + (tI 2 x).length, 0, A⟩ 3 ⟨#[47, 92]⟩ = true from by rw [is_at hd1]; rfl, next_at hd1 (by simp), more_at (by omega)]
      simp only [okR, decide_true, Bool.and_self, if_true, hone]
      simp only [normT, normL]
      rw [show k + (tI 2 x).length + 1 + (tI 3 y).length = k + ((tI 2 x).length + ((tI 3 y).length + 1)) by omega, show m + countT x + 1 + countT y = m + (1 + (countT x + (countT y + 0))) by omega]
      simp
    exact ⟨either_both hb, fun _ => hb, fun h => absurd h (by simp [levelT])⟩
  | or c r a v hx hy ihx ihy =>
    rename_i x y
    refine ⟨?_, fun h => absurd h (by simp [levelT]), fun h => absurd h (by simp [levelT])⟩
    have hl1 : ¬ levelT x < 1 := level_pos x
    obtain ⟨e, h1, h2, h3⟩ := ihx.1
    have hcc : countT (.mk 5 c r a v [x, y]) = 1 + (countT x + (countT y + 0)) := rfl
    rw [tT_or, tI_out hl1]
    refine ⟨e + 1, by omega, by simp; omega, fun tk k A m f rest hd hn hm hf => ?_⟩
    simp only [List.length_cons, List.length_append, List.append_assoc, List.cons_append] at hd hf ⊢
    rw [hcc] at hm ⊢
    have hd1 := drop_add hd
    have hd2 := (pk_at (A := A) hd1).2.2
    have hboth := both_done (inn2 y ihy) (A := A) (m := m + countT x + 1) (f := f) hd2 hn (by omega) (by omega)
    rw [show f + (e + 1) = (f + 1) + e by omega, h3 tk k A m (f + 1) _ hd (notIs_cons (ne_kt (by decide))) (by omega) (by omega), parseF,
      show isR tk ⟨k + (tT x).length, 0, A⟩ 3 ⟨#[92, 47]⟩ = true from by rw [is_at hd1]; rfl, next_at hd1 (by simp), more_at (by omega)]
    simp only [okR, decide_true, Bool.and_self, if_true, hboth]
    simp only [normT, normL]
    rw [show k + (tT x).length + 1 + (tI 2 y).length = k + ((tT x).length + ((tI 2 y).length + 1)) by omega, show m + countT x + 1 + countT y = m + (1 + (countT x + (countT y + 0))) by omega]
    simp
/-- The whole: its text's tokens, and what is read from them. -/
theorem back_all {t : CT} (h : RT t) (hc : countT t ≤ 64) : ∃ K, toksF (ba (printT t)) 0 [] = (K, 0, (printT t).length) ∧ ∃ s : RS, parseC (tkOf (ba (printT t)) 0 K) ⟨0, 0, 0⟩ = (normT t, s) ∧ s.code = 0 := by
  have hok : okPs (pcT t) := by
    have := ok_pcT h [] trivial rfl
    rwa [List.append_nil] at this
  obtain ⟨K, h1, h2⟩ := lex_pieces (pcT t) hok
  rw [flat_pcT h] at h1 h2
  refine ⟨K, h1, ?_⟩
  have hd : ((tkOf (ba (printT t)) 0 K).map kt).drop 0 = tT t ++ [(4, ByteArray.empty)] := by rw [List.drop_zero]; exact h2
  have hlen : (tkOf (ba (printT t)) 0 K).length = (tT t).length + 1 := by
    have := congrArg List.length hd
    simpa using this
  have n1 : ∀ b, notIs [((4 : Int), ByteArray.empty)] (3, b) := fun b => notIs_cons (fun e => by cases congrArg Prod.fst e)
  have he := either_done (read_all h).1 (A := 0) (m := 0) (f := 4 * (tkOf (ba (printT t)) 0 K).length + 3) hd (n1 _) (n1 _) (by omega) (by omega)
  refine ⟨⟨0 + (tT t).length, 0, 0⟩, ?_, rfl⟩
  unfold parseC
  rw [he]
  unfold endR
  rw [(pk_at (A := 0) (drop_add hd)).1]
  rfl
theorem clean_head {k c r : Int} {a v : Nat} {args : List CT} {k' c' r' : Int} {a' v' : Nat} (hz : zeroT k c r a v args = .mk k' c' r' a' v' args) (h : cleanT (.mk k c r a v args) = true) : (c' = c ∧ r' = r ∧ a' = a ∧ v' = v) ∧ cleanL args = true := by
  rw [cleanT, Bool.and_eq_true, hz, sameT, Bool.and_eq_true] at h
  have h2 := of_decide_eq_true h.1.1
  exact ⟨⟨h2.2.1, h2.2.2.1, h2.2.2.2.1, h2.2.2.2.2.1⟩, h.2⟩
theorem same_mk {k c r : Int} {a v : Nat} {l m : List CT} (hl : l.length = m.length) (h : sameL l m = true) : sameT (.mk k c r a v l) (.mk k c r a v m) = true := by
  rw [sameT, Bool.and_eq_true]
  exact ⟨decide_eq_true ⟨rfl, rfl, rfl, rfl, rfl, hl⟩, h⟩
theorem sameL_nil : sameL [] [] = true := sameL_all [] [] (fun j h => by simp at h)
theorem sameL_one {x x' : CT} (h : sameT x x' = true) : sameL [x] [x'] = true := by rw [sameL, h, sameL_nil]; rfl
theorem sameL_two {x x' y y' : CT} (h : sameT x x' = true) (h2 : sameT y y' = true) : sameL [x, y] [x', y'] = true := by rw [sameL, h, sameL_one h2]; rfl
theorem same_norm {t : CT} (h : RT t) (hcl : cleanT t = true) : sameT t (normT t) = true := by
  induction h with
  | reg c r a v hc hr hv =>
    obtain ⟨⟨_, _, rfl, _⟩, _⟩ := clean_head (show zeroT 1 c r a v [] = .mk 1 c r 0 v [] from rfl) hcl
    exact same_mk rfl sameL_nil
  | cell c r a v ha hv =>
    obtain ⟨⟨rfl, rfl, _, _⟩, _⟩ := clean_head (show zeroT 2 c r a v [] = .mk 2 0 0 a v [] from rfl) hcl
    exact same_mk rfl sameL_nil
  | flt c r a v hc hv =>
    obtain ⟨⟨_, rfl, rfl, _⟩, _⟩ := clean_head (show zeroT 3 c r a v [] = .mk 3 c 0 0 v [] from rfl) hcl
    exact same_mk rfl sameL_nil
  | tru c r a v =>
    obtain ⟨⟨rfl, rfl, rfl, rfl⟩, _⟩ := clean_head (show zeroT 7 c r a v [] = .mk 7 0 0 0 0 [] from rfl) hcl
    exact same_mk rfl sameL_nil
  | not c r a v hx ih =>
    rename_i x
    obtain ⟨⟨rfl, rfl, rfl, rfl⟩, hl⟩ := clean_head (show zeroT 6 c r a v [x] = .mk 6 0 0 0 0 [x] from rfl) hcl
    rw [cleanL, Bool.and_eq_true] at hl
    exact same_mk rfl (sameL_one (ih hl.1))
  | and c r a v hx hy ihx ihy =>
    rename_i x y
    obtain ⟨⟨rfl, rfl, rfl, rfl⟩, hl⟩ := clean_head (show zeroT 4 c r a v [x, y] = .mk 4 0 0 0 0 [x, y] from rfl) hcl
    rw [cleanL, Bool.and_eq_true, cleanL, Bool.and_eq_true] at hl
    exact same_mk rfl (sameL_two (ihx hl.1) (ihy hl.2.1))
  | or c r a v hx hy ihx ihy =>
    rename_i x y
    obtain ⟨⟨rfl, rfl, rfl, rfl⟩, hl⟩ := clean_head (show zeroT 5 c r a v [x, y] = .mk 5 0 0 0 0 [x, y] from rfl) hcl
    rw [cleanL, Bool.and_eq_true, cleanL, Bool.and_eq_true] at hl
    exact same_mk rfl (sameL_two (ihx hl.1) (ihy hl.2.1))
end Go.Proofs.Yteepoohcdmjmhaa
