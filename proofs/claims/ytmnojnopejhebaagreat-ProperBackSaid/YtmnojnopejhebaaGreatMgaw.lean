/- The state's function last. -/
import Derived.Test.YtmnojnopejhebaaGreatMgah
import Derived.Test.YtmnojnopejhebaaGreatMgai
import Derived.Test.YtmnojnopejhebaaGreatMgar
import Derived.Test.YtmnojnopejhebaaGreatMgat
import Derived.Test.YtmnojnopejhebaaGreatMgau
import Derived.Test.YtmnojnopejhebaaGreatMgav
namespace Go.Proofs.YtmnojnopejhebaaGreat
set_option linter.unusedVariables false
set_option linter.unusedSimpArgs false
set_option maxRecDepth 100000
set_option maxHeartbeats 25600000
section
open Go.RowKit
inductive RT : CT → Prop
 | reg (c r : Int) (a v : Nat) (hc : 0 ≤ c ∧ c < 4) (hr : 0 ≤ r ∧ r < 31) (hv : v < 18446744073709551616) : RT (.mk 1 c r a v [])
 | cell (c r : Int) (a v : Nat) (ha : a < 18446744073709551616) (hv : v < 18446744073709551616) : RT (.mk 2 c r a v [])
 | flt (c r : Int) (a v : Nat) (hc : 0 ≤ c ∧ c < 4) (hv : v < 18446744073709551616) : RT (.mk 3 c r a v [])
 | tru (c r : Int) (a v : Nat) : RT (.mk 7 c r a v [])
 | not (c r : Int) (a v : Nat) {x : CT} (hx : RT x) : RT (.mk 6 c r a v [x])
 | and (c r : Int) (a v : Nat) {x y : CT} (hx : RT x) (hy : RT y) : RT (.mk 4 c r a v [x, y])
 | or (c r : Int) (a v : Nat) {x y : CT} (hx : RT x) (hy : RT y) : RT (.mk 5 c r a v [x, y])
theorem rt_of : ∀ t : CT, t.Fits → rightT 4 t = 0 → RT t := by
 intro t
 refine CT.ind (P := fun t => t.Fits → rightT 4 t = 0 → RT t) ?_ t
 intro k c r a v args IH hf hr
 obtain ⟨hh, hra⟩ := right0 hr
 obtain ⟨hk, hw, h1, h2⟩ := head0 hh
 cases hf with
 | mk hn ha =>
  obtain ⟨n1, n2, n3, n4, n5⟩ := hn
  have hk' : k = 1 ∨ k = 2 ∨ k = 3 ∨ k = 4 ∨ k = 5 ∨ k = 6 ∨ k = 7 := by omega
  rcases hk' with rfl | rfl | rfl | rfl | rfl | rfl | rfl
  ·obtain rfl : args = [] := List.length_eq_zero_iff.1 (by have : wantN 1 = 0 := rfl; omega)
   exact .reg c r a v (h2 (.inl rfl)) (h1 rfl) n2
  ·obtain rfl : args = [] := List.length_eq_zero_iff.1 (by have : wantN 2 = 0 := rfl; omega)
   exact .cell c r a v n1 n2
  ·obtain rfl : args = [] := List.length_eq_zero_iff.1 (by have : wantN 3 = 0 := rfl; omega)
   exact .flt c r a v (h2 (.inr rfl)) n2
  ·obtain ⟨x, y, rfl⟩ := list2 (show args.length = 2 by have : wantN 4 = 2 := rfl; omega)
   exact .and c r a v (IH x (by simp) (ha x (by simp)) (hra x (by simp))) (IH y (by simp) (ha y (by simp)) (hra y (by simp)))
  ·obtain ⟨x, y, rfl⟩ := list2 (show args.length = 2 by have : wantN 5 = 2 := rfl; omega)
   exact .or c r a v (IH x (by simp) (ha x (by simp)) (hra x (by simp))) (IH y (by simp) (ha y (by simp)) (hra y (by simp)))
  ·obtain ⟨x, rfl⟩ := List.length_eq_one_iff.1 (show args.length = 1 by have : wantN 6 = 1 := rfl; omega)
   exact .not c r a v (IH x (by simp) (ha x (by simp)) (hra x (by simp)))
  ·obtain rfl : args = [] := List.length_eq_zero_iff.1 (by have : wantN 7 = 0 := rfl; omega)
   exact .tru c r a v
def innP (n : Nat) (x : Nat × List Pc) : List Pc := if x.1 < n then (3, [40]) :: (x.2 ++ [(3, [41])]) else x.2
def pcA (k : Int) : List (Nat × List Pc) → List Pc
 | [x] => (3, [126]) :: innP 3 x
 | [x, y] => if k = 4 then innP 2 x ++ (0, [32]) :: (3, [47, 92]) :: (0, [32]) :: innP 3 y else innP 1 x ++ (0, [32]) :: (3, [92, 47]) :: (0, [32]) :: innP 2 y
 | _ => []
def pcN (k c r : Int) (a v : Nat) (ps : List (Nat × List Pc)) : List Pc :=
 if k = 1 then [(2, intL c), (3, [58]), (1, regL r), (3, [61]), (2, hexL v)]
 else if k = 2 then [(3, [91]), (2, hexL a), (3, [93]), (3, [61]), (2, hexL v)]
 else if k = 3 then [(1, [102, 97, 117, 108, 116, 115]), (0, [32]), (2, intL c), (3, [61]), (2, hexL v)]
 else if k = 7 then [(1, [116, 114, 117, 101])]
 else pcA k ps
mutual
def pcT : CT → List Pc
 | .mk k c r a v args => pcN k c r a v (pcL args)
def pcL : List CT → List (Nat × List Pc)
 | [] => []
 | t :: ts => (levelT t, pcT t) :: pcL ts
end
mutual
def normT : CT → CT
 | .mk k c r a v args => if k = 1 then .mk 1 c r 0 v [] else if k = 2 then .mk 2 0 0 a v [] else if k = 3 then .mk 3 c 0 0 v [] else .mk k 0 0 0 0 (normL args)
def normL : List CT → List CT
 | [] => []
 | t :: ts => normT t :: normL ts
end
theorem flat_inn (n : Nat) (l : Nat) (ps : List Pc) : flat (innP n (l, ps)) = innerL n (l, flat ps) := by
 unfold innP innerL
 split <;> simp [flat]
theorem flat_pcT {t : CT} (h : RT t) : flat (pcT t) = printT t := by
 induction h with
 | reg c r a v hc hr hv => simp [pcT, pcN, printT, nodeL, nodeX, flat]
 | cell c r a v ha hv => simp [pcT, pcN, printT, nodeL, nodeX, flat]
 | flt c r a v hc hv => simp [pcT, pcN, printT, nodeL, nodeX, flat]
 | tru c r a v => simp [pcT, pcN, printT, nodeL, nodeX, flat]
 | not c r a v hx ih =>
  rename_i x
  rw [pcT, printT, pcL, pcL, printL, printL]
  show flat ((3, [126]) :: innP 3 (levelT x, pcT x)) = [126] ++ innerL 3 (levelT x, printT x)
  rw [flat_cons, flat_inn, ih]
 | and c r a v hx hy ihx ihy =>
  rename_i x y
  rw [pcT, printT, pcL, pcL, pcL, printL, printL, printL]
  show flat (innP 2 (levelT x, pcT x) ++ (0, [32]) :: (3, [47, 92]) :: (0, [32]) :: innP 3 (levelT y, pcT y)) = innerL 2 (levelT x, printT x) ++ [32, 47, 92, 32] ++ innerL 3 (levelT y, printT y)
  rw [flat_append, flat_cons, flat_cons, flat_cons, flat_inn, flat_inn, ihx, ihy]
  simp
 | or c r a v hx hy ihx ihy =>
  rename_i x y
  rw [pcT, printT, pcL, pcL, pcL, printL, printL, printL]
  show flat (innP 1 (levelT x, pcT x) ++ (0, [32]) :: (3, [92, 47]) :: (0, [32]) :: innP 2 (levelT y, pcT y)) = innerL 1 (levelT x, printT x) ++ [32, 92, 47, 32] ++ innerL 2 (levelT y, printT y)
  rw [flat_append, flat_cons, flat_cons, flat_cons, flat_inn, flat_inn, ihx, ihy]
  simp
theorem reg_names : ∀ r, r < 31 → (regL (r : Nat)).all letU = true ∧ (regL (r : Nat)).length ≤ 24 ∧ (regL (r : Nat)).head? = some 88 ∧ regN (ba (regL (r : Nat))) = some r := by decide +kernel
theorem core_texts : ∀ c, c < 4 → intL (c : Nat) = [48 + UInt8.ofNat c] := by decide +kernel
theorem hex_letters (v : Nat) (hv : v < 18446744073709551616) : (hexL v).all letU = true ∧ (hexL v).length ≤ 24 ∧ hexL v = 48 :: 120 :: txt 16 v ∧ (parseL (hexL v)) = (v, 0) := by
 obtain ⟨h1, _, _⟩ := txt_digits 16 (by decide) (by decide) (v + 1) v (by omega)
 have hl := txt_len 16 (by decide) 15 v (by omega)
 refine ⟨?_, by unfold hexL; simp; omega, rfl, hex_parse v hv⟩
 unfold hexL
 rw [List.all_append, Bool.and_eq_true]
 refine ⟨by decide +kernel, List.all_eq_true.2 fun c hc => ?_⟩
 obtain ⟨d, hd, rfl⟩ := h1 c hc
 have : ∀ d, d < 16 → letU (dg d) = true := by decide +kernel
 exact this d hd
theorem pc_hex (v : Nat) (hv : v < 18446744073709551616) : pcOK (2, hexL v) := by
 obtain ⟨h1, h2, h3, h4⟩ := hex_letters v hv
 exact .inr (.inr (.inr ⟨rfl, h1, h2, ⟨48, 120 :: txt 16 v, h3, by decide +kernel⟩, by rw [h4]⟩))
theorem pc_core {c : Int} (hc : 0 ≤ c ∧ c < 4) : pcOK (2, intL c) := by
 obtain ⟨n, rfl⟩ := Int.eq_ofNat_of_zero_le hc.1
 have : ∀ n, n < 4 → (intL (n : Nat)).all letU = true ∧ (intL (n : Nat)).length ≤ 24 ∧ (parseL (intL (n : Nat))).2 = 0 ∧ digitB ((48 + UInt8.ofNat n).toNat : Int) = true := by decide +kernel
 obtain ⟨h1, h2, h3, h4⟩ := this n (by omega)
 exact .inr (.inr (.inr ⟨rfl, h1, h2, ⟨_, [], core_texts n (by omega), h4⟩, h3⟩))
theorem pc_reg {r : Int} (hr : 0 ≤ r ∧ r < 31) : pcOK (1, regL r) := by
 obtain ⟨n, rfl⟩ := Int.eq_ofNat_of_zero_le hr.1
 obtain ⟨h1, h2, h3, h4⟩ := reg_names n (by omega)
 refine .inr (.inr (.inl ⟨rfl, h1, h2, ?_⟩))
 cases hx : regL (n : Nat) with
 | nil => rw [hx] at h3; cases h3
 | cons c l =>
  rw [hx] at h3
  obtain rfl : c = 88 := by simpa using h3
  exact ⟨88, l, rfl, by decide +kernel⟩
theorem pc_sign {b : List UInt8} (h : b ∈ signL) : pcOK (3, b) := .inr (.inl ⟨rfl, h⟩)
theorem pc_blank : pcOK (0, [32]) := .inl ⟨rfl, rfl⟩
def Cont (ps : List Pc) : Prop := ∀ rest : List Pc, okPs rest → startsOK (flat rest) = true → okPs (ps ++ rest)
theorem ok_inn {ps : List Pc} (h : Cont ps) (n l : Nat) : Cont (innP n (l, ps)) := by
 intro rest h1 h2
 unfold innP
 split
 ·refine ⟨pc_sign (by simp [signL]), fun h => by simp at h, ?_⟩
  show okPs (ps ++ [(3, [41])] ++ rest)
  rw [List.append_assoc]
  exact h _ ⟨pc_sign (by simp [signL]), fun h => by simp at h, h1⟩ (by decide +kernel : startsOK (41 :: []) = true)
 ·exact h rest h1 h2
theorem ok_pcT {t : CT} (h : RT t) : Cont (pcT t) := by
 induction h with
 | reg c r a v hc hr hv =>
  intro rest h1 h2
  exact ⟨pc_core hc, fun _ => (by decide +kernel : startsOK (58 :: []) = true), pc_sign (by simp [signL]), fun h => by simp at h, pc_reg hr, fun _ => (by decide +kernel : startsOK (61 :: []) = true), pc_sign (by simp [signL]), fun h => by simp at h, pc_hex v hv, fun _ => h2, h1⟩
 | cell c r a v ha hv =>
  intro rest h1 h2
  exact ⟨pc_sign (by simp [signL]), fun h => by simp at h, pc_hex a ha, fun _ => (by decide +kernel : startsOK (93 :: []) = true), pc_sign (by simp [signL]), fun h => by simp at h, pc_sign (by simp [signL]), fun h => by simp at h, pc_hex v hv, fun _ => h2, h1⟩
 | flt c r a v hc hv =>
  intro rest h1 h2
  exact ⟨.inr (.inr (.inl ⟨rfl, by decide +kernel, by decide, 102, _, rfl, by decide +kernel⟩)), fun _ => (by decide +kernel : startsOK (32 :: []) = true), pc_blank, fun h => by simp at h, pc_core hc, fun _ => (by decide +kernel : startsOK (61 :: []) = true), pc_sign (by simp [signL]), fun h => by simp at h, pc_hex v hv, fun _ => h2, h1⟩
 | tru c r a v =>
  intro rest h1 h2
  exact ⟨.inr (.inr (.inl ⟨rfl, by decide +kernel, by decide, 116, _, rfl, by decide +kernel⟩)), fun _ => h2, h1⟩
 | not c r a v hx ih =>
  rename_i x
  intro rest h1 h2
  rw [pcT, pcL, pcL]
  exact ⟨pc_sign (by simp [signL]), fun h => by simp at h, ok_inn ih 3 _ rest h1 h2⟩
 | and c r a v hx hy ihx ihy =>
  rename_i x y
  intro rest h1 h2
  rw [pcT, pcL, pcL, pcL]
  show okPs ((innP 2 (levelT x, pcT x) ++ (0, [32]) :: (3, [47, 92]) :: (0, [32]) :: innP 3 (levelT y, pcT y)) ++ rest)
  rw [List.append_assoc]
  exact ok_inn ihx 2 _ _ ⟨pc_blank, fun h => by simp at h, pc_sign (by simp [signL]), fun h => by simp at h, pc_blank, fun h => by simp at h, ok_inn ihy 3 _ rest h1 h2⟩ (by decide +kernel : startsOK (32 :: []) = true)
 | or c r a v hx hy ihx ihy =>
  rename_i x y
  intro rest h1 h2
  rw [pcT, pcL, pcL, pcL]
  show okPs ((innP 1 (levelT x, pcT x) ++ (0, [32]) :: (3, [92, 47]) :: (0, [32]) :: innP 2 (levelT y, pcT y)) ++ rest)
  rw [List.append_assoc]
  exact ok_inn ihx 1 _ _ ⟨pc_blank, fun h => by simp at h, pc_sign (by simp [signL]), fun h => by simp at h, pc_blank, fun h => by simp at h, ok_inn ihy 2 _ rest h1 h2⟩ (by decide +kernel : startsOK (32 :: []) = true)
abbrev KT := Int × ByteArray
def tkP (ps : List Pc) : List KT := (ps.filter fun p => decide (¬ p.1 = 0)).map kp
def tT (t : CT) : List KT := tkP (pcT t)
def tI (n : Nat) (t : CT) : List KT := tkP (innP n (levelT t, pcT t))
theorem tkP_append (a b : List Pc) : tkP (a ++ b) = tkP a ++ tkP b := by simp [tkP]
theorem tI_in {n : Nat} {t : CT} (h : levelT t < n) : tI n t = (3, ba [40]) :: (tT t ++ [(3, ba [41])]) := by
 unfold tI innP
 rw [if_pos h]
 show (3, ba [40]) :: tkP (pcT t ++ [(3, [41])]) = _
 rw [tkP_append]; rfl
theorem tI_out {n : Nat} {t : CT} (h : ¬ levelT t < n) : tI n t = tT t := by
 unfold tI innP
 rw [if_neg h]; rfl
theorem tT_and (c r : Int) (a v : Nat) (x y : CT) : tT (.mk 4 c r a v [x, y]) = tI 2 x ++ (3, ba [47, 92]) :: tI 3 y := by
 show tkP (innP 2 (levelT x, pcT x) ++ (0, [32]) :: (3, [47, 92]) :: (0, [32]) :: innP 3 (levelT y, pcT y)) = _
 rw [tkP_append]; rfl
theorem tT_or (c r : Int) (a v : Nat) (x y : CT) : tT (.mk 5 c r a v [x, y]) = tI 1 x ++ (3, ba [92, 47]) :: tI 2 y := by
 show tkP (innP 1 (levelT x, pcT x) ++ (0, [32]) :: (3, [92, 47]) :: (0, [32]) :: innP 2 (levelT y, pcT y)) = _
 rw [tkP_append]; rfl
theorem tT_not (c r : Int) (a v : Nat) (x : CT) : tT (.mk 6 c r a v [x]) = (3, ba [126]) :: tI 3 x := rfl
section
variable {tk : List Tk} {k : Nat} {A : Int} {x : KT} {xs : List KT}
theorem pk_at (h : (tk.map kt).drop k = x :: xs) : (peekR tk ⟨k, 0, A⟩).1 = x.1 ∧ (peekR tk ⟨k, 0, A⟩).2.1 = x.2 ∧ (tk.map kt).drop (k + 1) = xs := by
 have hk : k < (tk.map kt).length := by
  rcases Nat.lt_or_ge k (tk.map kt).length with h' | h'
  ·exact h'
  ·rw [List.drop_eq_nil_of_le h'] at h; cases h
 have h1 := List.drop_eq_getElem_cons hk
 rw [h] at h1
 injection h1 with h1 h2
 have hk' : k < tk.length := by simpa using hk
 have hp : peekR tk ⟨k, 0, A⟩ = tk[k] := by unfold peekR; simp [List.getD_eq_getElem?_getD, hk']
 rw [hp, h1]
 refine ⟨by simp [kt], by simp [kt], h2.symm⟩
theorem pk_nil (h : (tk.map kt).drop k = []) : peekR tk ⟨k, 0, A⟩ = (4, ByteArray.empty, 0) := by
 refine peek_out ?_
 have := List.drop_eq_nil_iff.1 h
 simp at this
 show ¬ k < tk.length
 omega
theorem is_at (h : (tk.map kt).drop k = x :: xs) (kd : Int) (tx : ByteArray) : isR tk ⟨k, 0, A⟩ kd tx = (decide (x.1 = kd) && decide (x.2 = tx)) := by
 obtain ⟨h1, h2, _⟩ := pk_at (A := A) h
 unfold isR; rw [h1, h2]
theorem next_at (h : (tk.map kt).drop k = x :: xs) (h4 : ¬ x.1 = 4) : nextR tk ⟨k, 0, A⟩ = ⟨k + 1, 0, A⟩ := by
 obtain ⟨h1, h2, _⟩ := pk_at (A := A) h
 unfold nextR; rw [h1, if_neg h4]; rfl
theorem must_at (h : (tk.map kt).drop k = x :: xs) (h4 : ¬ x.1 = 4) : mustR tk ⟨k, 0, A⟩ x.1 x.2 = ⟨k + 1, 0, A⟩ := by
 unfold mustR; rw [is_at h, decide_eq_true rfl, decide_eq_true rfl]
 exact next_at h h4
theorem number_at {l : List UInt8} {n : Nat} (h : (tk.map kt).drop k = (2, ba l) :: xs) (hn : parseL l = (n, 0)) : numberR tk ⟨k, 0, A⟩ = (n, ⟨k + 1, 0, A⟩) := by
 obtain ⟨h1, h2, _⟩ := pk_at (A := A) h
 have hq : numT (ba l) = (n, 0) := hn
 unfold numberR; rw [h1, h2, hq, if_pos ⟨rfl, rfl⟩, next_at h (by simp)]
theorem small_at {l : List UInt8} {n most : Nat} (h : (tk.map kt).drop k = (2, ba l) :: xs) (hn : parseL l = (n, 0)) (hm : n < most) : smallR tk ⟨k, 0, A⟩ most = (n, ⟨k + 1, 0, A⟩) := by
 obtain ⟨h1, h2, _⟩ := pk_at (A := A) h
 have hq : numT (ba l) = (n, 0) := hn
 unfold smallR; rw [h1, h2, hq, if_neg (by rintro ⟨_, _, h3⟩; omega)]
 exact number_at h hn
theorem value_at {v : Nat} (hv : v < 18446744073709551616) (h : (tk.map kt).drop k = (3, ba [61]) :: (2, ba (hexL v)) :: xs) : valueR tk ⟨k, 0, A⟩ = (v, ⟨k + 2, 0, A⟩) := by
 unfold valueR
 have e : mustR tk ⟨k, 0, A⟩ 3 ⟨#[61]⟩ = ⟨k + 1, 0, A⟩ := must_at h (by simp)
 rw [e]
 exact number_at (pk_at (A := A) h).2.2 (hex_letters v hv).2.2.2
theorem more_at {m : Nat} (h : m + 1 ≤ 64) : moreR tk ⟨k, 0, A⟩ m = ⟨k, 0, A⟩ := by unfold moreR; rw [if_neg (by omega)]
end
theorem core_parse {c : Int} (hc : 0 ≤ c ∧ c < 4) : ∃ n : Nat, c = (n : Int) ∧ n < 4 ∧ parseL (intL c) = (n, 0) := by
 obtain ⟨n, rfl⟩ := Int.eq_ofNat_of_zero_le hc.1
 have : ∀ n, n < 4 → parseL (intL (n : Nat)) = (n, 0) := by decide +kernel
 exact ⟨n, rfl, by omega, this n (by omega)⟩
def OneAt (t : CT) (ts : List KT) : Prop := ∀ (tk : List Tk) (k : Nat) (A : Int) (m f : Nat) (rest : List KT), (tk.map kt).drop k = ts ++ rest → m + countT t ≤ 64 → 3 * ts.length + 1 ≤ f →
 parseF tk f .one ⟨k, 0, A⟩ m = (normT t, ⟨k + ts.length, 0, A⟩, m + countT t)
def notIs (rest : List KT) (x : KT) : Prop := ∀ y ys, rest = y :: ys → ¬ y = x
def BothAt (t : CT) (ts : List KT) : Prop := ∃ e, 1 ≤ e ∧ e ≤ ts.length ∧ ∀ (tk : List Tk) (k : Nat) (A : Int) (m f : Nat) (rest : List KT), (tk.map kt).drop k = ts ++ rest → m + countT t ≤ 64 → 3 * ts.length + 2 ≤ f + e →
 parseF tk (f + e) .both ⟨k, 0, A⟩ m = parseF tk f (.bothL (normT t)) ⟨k + ts.length, 0, A⟩ (m + countT t)
def EitherAt (t : CT) (ts : List KT) : Prop := ∃ e, 1 ≤ e ∧ e ≤ ts.length ∧ ∀ (tk : List Tk) (k : Nat) (A : Int) (m f : Nat) (rest : List KT), (tk.map kt).drop k = ts ++ rest → notIs rest (3, ba [47, 92]) → m + countT t ≤ 64 → 3 * ts.length + 3 ≤ f + e →
 parseF tk (f + e) .either ⟨k, 0, A⟩ m = parseF tk f (.eitherL (normT t)) ⟨k + ts.length, 0, A⟩ (m + countT t)
theorem drop_add {l ts rest : List KT} {k : Nat} (h : l.drop k = ts ++ rest) : l.drop (k + ts.length) = rest := by
 rw [← List.drop_drop, h, List.drop_left]
theorem not_is {tk : List Tk} {k : Nat} {A : Int} {rest : List KT} (h : (tk.map kt).drop k = rest) {tx : ByteArray} (hn : notIs rest (3, tx)) : isR tk ⟨k, 0, A⟩ 3 tx = false := by
 cases rest with
 | nil => unfold isR; rw [pk_nil h]; rfl
 | cons y ys =>
  rw [is_at h]
  have := hn y ys rfl
  by_cases h1 : y.1 = 3
  ·have h2 : ¬ y.2 = tx := fun e => this (by rw [← h1, ← e])
   rw [decide_eq_false h2]; simp
  ·rw [decide_eq_false h1]; rfl
theorem both_done {t : CT} {ts : List KT} (h : BothAt t ts) {tk : List Tk} {k : Nat} {A : Int} {m f : Nat} {rest : List KT} (hd : (tk.map kt).drop k = ts ++ rest) (hn : notIs rest (3, ba [47, 92])) (hm : m + countT t ≤ 64) (hf : 3 * ts.length + 2 ≤ f) :
  parseF tk f .both ⟨k, 0, A⟩ m = (normT t, ⟨k + ts.length, 0, A⟩, m + countT t) := by
 obtain ⟨e, h1, h2, h3⟩ := h
 obtain ⟨g, rfl⟩ : ∃ g, f = (g + 1) + e := ⟨f - e - 1, by omega⟩
 rw [h3 tk k A m (g + 1) rest hd hm hf, parseF]
 rw [show isR tk ⟨k + ts.length, 0, A⟩ 3 ⟨#[47, 92]⟩ = false from not_is (drop_add hd) hn]
 simp
theorem either_done {t : CT} {ts : List KT} (h : EitherAt t ts) {tk : List Tk} {k : Nat} {A : Int} {m f : Nat} {rest : List KT} (hd : (tk.map kt).drop k = ts ++ rest) (hn : notIs rest (3, ba [47, 92])) (hn2 : notIs rest (3, ba [92, 47])) (hm : m + countT t ≤ 64) (hf : 3 * ts.length + 3 ≤ f) :
  parseF tk f .either ⟨k, 0, A⟩ m = (normT t, ⟨k + ts.length, 0, A⟩, m + countT t) := by
 obtain ⟨e, h1, h2, h3⟩ := h
 obtain ⟨g, rfl⟩ : ∃ g, f = (g + 1) + e := ⟨f - e - 1, by omega⟩
 rw [h3 tk k A m (g + 1) rest hd hn hm hf, parseF]
 rw [show isR tk ⟨k + ts.length, 0, A⟩ 3 ⟨#[92, 47]⟩ = false from not_is (drop_add hd) hn2]
 simp
theorem notIs_cons {x y : KT} {l : List KT} (h : ¬ y = x) : notIs (y :: l) x := by
 intro a b e; injection e with e1 e2; rw [← e1]; exact h
theorem ne_kt {b c : List UInt8} (h : ¬ b = c) : ¬ ((3 : Int), ba b) = (3, ba c) := fun e => h (by
 have h1 := congrArg (fun x : KT => x.2.data.toList) e
 exact h1)
theorem one_paren {t : CT} (h : EitherAt t (tT t)) : OneAt t ((3, ba [40]) :: (tT t ++ [(3, ba [41])])) := by
 intro tk k A m f rest hd hm hf
 obtain ⟨g, rfl⟩ : ∃ g, f = g + 1 := ⟨f - 1, by omega⟩
 simp only [List.length_cons, List.length_append, List.length_nil] at hf ⊢
 simp only [List.cons_append, List.append_assoc] at hd
 have hd1 := (pk_at (A := A) hd).2.2
 rw [parseF, show isR tk ⟨k, 0, A⟩ 3 ⟨#[40]⟩ = true from by rw [is_at hd]; rfl, next_at hd (by simp)]
 have he := either_done h (A := A) (m := m) (f := g) hd1 (notIs_cons (ne_kt (by decide))) (notIs_cons (ne_kt (by decide))) hm (by omega)
 have hd2 := drop_add hd1
 have hmm : mustR tk ⟨k + 1 + (tT t).length, 0, A⟩ 3 ⟨#[41]⟩ = ⟨k + 1 + (tT t).length + 1, 0, A⟩ := must_at hd2 (by simp)
 simp only [okR, decide_true, Bool.and_self, if_true, he, hmm]
 rw [show k + 1 + (tT t).length + 1 = k + ((tT t).length + (0 + 1) + 1) by omega]
theorem both_one {t : CT} {ts : List KT} (hl : 1 ≤ ts.length) (h : OneAt t ts) : BothAt t ts := by
 refine ⟨1, by omega, hl, fun tk k A m f rest hd hm hf => ?_⟩
 rw [parseF, h tk k A m f rest hd hm (by omega)]
theorem either_both {t : CT} {ts : List KT} (h : BothAt t ts) : EitherAt t ts := by
 have h' := h
 obtain ⟨e, h1, h2, _⟩ := h'
 refine ⟨1, by omega, by omega, fun tk k A m f rest hd hn hm hf => ?_⟩
 rw [parseF, both_done h hd hn hm (by omega)]
theorem level_pos (x : CT) : ¬ levelT x < 1 := by
 obtain ⟨k, c, r, a, v, args⟩ := x
 rw [levelT]
 split
 ·omega
 ·split <;> omega
theorem one_leaf {tk : List Tk} {k : Nat} {A : Int} {m f : Nat} {x : KT} {xs : List KT} (hd : (tk.map kt).drop k = x :: xs) (h1 : ¬ x = (3, ba [40])) (h2 : ¬ x = (3, ba [126])) (hm : m + 1 ≤ 64) :
  parseF tk (f + 1) .one ⟨k, 0, A⟩ m = ((leafR tk ⟨k, 0, A⟩).1, (leafR tk ⟨k, 0, A⟩).2, m + 1) := by
 have q1 : isR tk ⟨k, 0, A⟩ 3 ⟨#[40]⟩ = false := not_is hd (notIs_cons h1)
 have q2 : isR tk ⟨k, 0, A⟩ 3 ⟨#[126]⟩ = false := not_is hd (notIs_cons h2)
 rw [parseF, q1, more_at hm, q2]
 simp [okR]
theorem leaf_cell {tk : List Tk} {k : Nat} {A : Int} {a v : Nat} (ha : a < 18446744073709551616) (hv : v < 18446744073709551616) {rest : List KT} (hd : (tk.map kt).drop k = (3, ba [91]) :: (2, ba (hexL a)) :: (3, ba [93]) :: (3, ba [61]) :: (2, ba (hexL v)) :: rest) :
  leafR tk ⟨k, 0, A⟩ = (.mk 2 0 0 a v [], ⟨k + 5, 0, A⟩) := by
 have d1 := (pk_at (A := A) hd).2.2
 have d2 := (pk_at (A := A) d1).2.2
 have d3 := (pk_at (A := A) d2).2.2
 have m2 : mustR tk ⟨k + 1 + 1, 0, A⟩ 3 ⟨#[93]⟩ = ⟨k + 1 + 1 + 1, 0, A⟩ := must_at d2 (by simp)
 unfold leafR
 rw [show isR tk ⟨k, 0, A⟩ 3 ⟨#[91]⟩ = true from by rw [is_at hd]; rfl, next_at hd (by simp), number_at d1 (hex_letters a ha).2.2.2]
 simp only [if_true, m2, value_at hv d3]
theorem leaf_tru {tk : List Tk} {k : Nat} {A : Int} {rest : List KT} (hd : (tk.map kt).drop k = (1, ba [116, 114, 117, 101]) :: rest) :
  leafR tk ⟨k, 0, A⟩ = (.mk 7 0 0 0 0 [], ⟨k + 1, 0, A⟩) := by
 unfold leafR
 rw [show isR tk ⟨k, 0, A⟩ 3 ⟨#[91]⟩ = false from by rw [is_at hd]; rfl, show isR tk ⟨k, 0, A⟩ 1 ⟨#[116, 114, 117, 101]⟩ = true from by rw [is_at hd]; rfl, next_at hd (by simp)]
 simp
theorem leaf_flt {tk : List Tk} {k : Nat} {A : Int} {c : Int} {v : Nat} (hc : 0 ≤ c ∧ c < 4) (hv : v < 18446744073709551616) {rest : List KT} (hd : (tk.map kt).drop k = (1, ba [102, 97, 117, 108, 116, 115]) :: (2, ba (intL c)) :: (3, ba [61]) :: (2, ba (hexL v)) :: rest) :
  leafR tk ⟨k, 0, A⟩ = (.mk 3 c 0 0 v [], ⟨k + 4, 0, A⟩) := by
 have d1 := (pk_at (A := A) hd).2.2
 have d2 := (pk_at (A := A) d1).2.2
 obtain ⟨n, rfl, hn, hp⟩ := core_parse hc
 unfold leafR
 rw [show isR tk ⟨k, 0, A⟩ 3 ⟨#[91]⟩ = false from by rw [is_at hd]; rfl, show isR tk ⟨k, 0, A⟩ 1 ⟨#[116, 114, 117, 101]⟩ = false from by rw [is_at hd]; rfl, show isR tk ⟨k, 0, A⟩ 1 ⟨#[102, 97, 117, 108, 116, 115]⟩ = true from by rw [is_at hd]; rfl, next_at hd (by simp), small_at d1 hp hn]
 simp only [if_true, value_at hv d2]
 simp
theorem leaf_reg {tk : List Tk} {k : Nat} {A : Int} {c r : Int} {v : Nat} (hc : 0 ≤ c ∧ c < 4) (hr : 0 ≤ r ∧ r < 31) (hv : v < 18446744073709551616) {rest : List KT} (hd : (tk.map kt).drop k = (2, ba (intL c)) :: (3, ba [58]) :: (1, ba (regL r)) :: (3, ba [61]) :: (2, ba (hexL v)) :: rest) :
  leafR tk ⟨k, 0, A⟩ = (.mk 1 c r 0 v [], ⟨k + 5, 0, A⟩) := by
 have d1 := (pk_at (A := A) hd).2.2
 have d2 := (pk_at (A := A) d1).2.2
 have d3 := (pk_at (A := A) d2).2.2
 obtain ⟨n, rfl, hn, hp⟩ := core_parse hc
 obtain ⟨j, rfl⟩ := Int.eq_ofNat_of_zero_le hr.1
 have hj := (reg_names j (by omega)).2.2.2
 obtain ⟨p1, p2, _⟩ := pk_at (A := A) d2
 have m1 : mustR tk ⟨k + 1, 0, A⟩ 3 ⟨#[58]⟩ = ⟨k + 1 + 1, 0, A⟩ := must_at d1 (by simp)
 have hreg : regR tk ⟨k + 1 + 1, 0, A⟩ = ⟨k + 1 + 1, 0, A⟩ := by
  unfold regR; rw [p1, p2, hj, if_neg]
  rintro (h | h | h)
  ·cases h
  ·injection h with h; omega
  ·exact h rfl
 unfold leafR
 rw [show isR tk ⟨k, 0, A⟩ 3 ⟨#[91]⟩ = false from by rw [is_at hd]; rfl, show isR tk ⟨k, 0, A⟩ 1 ⟨#[116, 114, 117, 101]⟩ = false from by rw [is_at hd]; rfl, show isR tk ⟨k, 0, A⟩ 1 ⟨#[102, 97, 117, 108, 116, 115]⟩ = false from by rw [is_at hd]; rfl, small_at hd hp hn]
 simp only [Bool.false_eq_true, if_false, m1, hreg, p2, hj, next_at d2 (by simp), value_at hv d3, Option.getD_some]
theorem read_all {t : CT} (h : RT t) : EitherAt t (tT t) ∧ (2 ≤ levelT t → BothAt t (tT t)) ∧ (3 ≤ levelT t → OneAt t (tT t)) := by
 have up : ∀ t : CT, 1 ≤ (tT t).length → OneAt t (tT t) → EitherAt t (tT t) ∧ (2 ≤ levelT t → BothAt t (tT t)) ∧ (3 ≤ levelT t → OneAt t (tT t)) := fun t hl ho => ⟨either_both (both_one hl ho), fun _ => both_one hl ho, fun _ => ho⟩
 have inn3 : ∀ x : CT, EitherAt x (tT x) ∧ (2 ≤ levelT x → BothAt x (tT x)) ∧ (3 ≤ levelT x → OneAt x (tT x)) → OneAt x (tI 3 x) := fun x hx => by
  by_cases hl : levelT x < 3
  ·rw [tI_in hl]; exact one_paren hx.1
  ·rw [tI_out hl]; exact hx.2.2 (by omega)
 have inn2 : ∀ x : CT, EitherAt x (tT x) ∧ (2 ≤ levelT x → BothAt x (tT x)) ∧ (3 ≤ levelT x → OneAt x (tT x)) → BothAt x (tI 2 x) := fun x hx => by
  by_cases hl : levelT x < 2
  ·rw [tI_in hl]; exact both_one (by simp) (one_paren hx.1)
  ·rw [tI_out hl]; exact hx.2.1 (by omega)
 induction h with
 | reg c r a v hc hr hv =>
  refine up _ (by simp [tT, tkP, pcT, pcN, pcL]) ?_
  intro tk k A m f rest hd hm hf
  have hd' : (tk.map kt).drop k = (2, ba (intL c)) :: (3, ba [58]) :: (1, ba (regL r)) :: (3, ba [61]) :: (2, ba (hexL v)) :: rest := hd
  obtain ⟨g, rfl⟩ : ∃ g, f = g + 1 := ⟨f - 1, by omega⟩
  rw [one_leaf hd' (fun e => by cases congrArg Prod.fst e) (fun e => by cases congrArg Prod.fst e) (by have : countT (.mk 1 c r a v []) = 1 := rfl; omega), leaf_reg hc hr hv hd']
  rfl
 | cell c r a v ha hv =>
  refine up _ (by simp [tT, tkP, pcT, pcN, pcL]) ?_
  intro tk k A m f rest hd hm hf
  have hd' : (tk.map kt).drop k = (3, ba [91]) :: (2, ba (hexL a)) :: (3, ba [93]) :: (3, ba [61]) :: (2, ba (hexL v)) :: rest := hd
  obtain ⟨g, rfl⟩ : ∃ g, f = g + 1 := ⟨f - 1, by omega⟩
  rw [one_leaf hd' (ne_kt (by decide)) (ne_kt (by decide)) (by have : countT (.mk 2 c r a v []) = 1 := rfl; omega), leaf_cell ha hv hd']
  rfl
 | flt c r a v hc hv =>
  refine up _ (by simp [tT, tkP, pcT, pcN, pcL]) ?_
  intro tk k A m f rest hd hm hf
  have hd' : (tk.map kt).drop k = (1, ba [102, 97, 117, 108, 116, 115]) :: (2, ba (intL c)) :: (3, ba [61]) :: (2, ba (hexL v)) :: rest := hd
  obtain ⟨g, rfl⟩ : ∃ g, f = g + 1 := ⟨f - 1, by omega⟩
  rw [one_leaf hd' (fun e => by cases congrArg Prod.fst e) (fun e => by cases congrArg Prod.fst e) (by have : countT (.mk 3 c r a v []) = 1 := rfl; omega), leaf_flt hc hv hd']
  rfl
 | tru c r a v =>
  refine up _ (by simp [tT, tkP, pcT, pcN, pcL]) ?_
  intro tk k A m f rest hd hm hf
  have hd' : (tk.map kt).drop k = (1, ba [116, 114, 117, 101]) :: rest := hd
  obtain ⟨g, rfl⟩ : ∃ g, f = g + 1 := ⟨f - 1, by omega⟩
  rw [one_leaf hd' (fun e => by cases congrArg Prod.fst e) (fun e => by cases congrArg Prod.fst e) (by have : countT (.mk 7 c r a v []) = 1 := rfl; omega), leaf_tru hd']
  rfl
 | not c r a v hx ih =>
  rename_i x
  refine up _ (by rw [tT_not]; simp) ?_
  intro tk k A m f rest hd hm hf
  obtain ⟨g, rfl⟩ : ∃ g, f = g + 1 := ⟨f - 1, by omega⟩
  rw [tT_not] at hd hf ⊢
  simp only [List.length_cons, List.cons_append] at hd hf ⊢
  have hcc : countT (.mk 6 c r a v [x]) = 1 + (countT x + 0) := rfl
  rw [hcc] at hm ⊢
  have hd1 := (pk_at (A := A) hd).2.2
  have hy := inn3 x ih tk (k + 1) A (m + 1) g rest hd1 (by omega) (by omega)
  rw [parseF, show isR tk ⟨k, 0, A⟩ 3 ⟨#[40]⟩ = false from by rw [is_at hd]; rfl, more_at (by omega), show isR tk ⟨k, 0, A⟩ 3 ⟨#[126]⟩ = true from by rw [is_at hd]; rfl, next_at hd (by simp)]
  simp only [okR, decide_true, Bool.and_false, Bool.false_eq_true, if_false, if_true, hy]
  simp only [normT, normL]
  rw [show k + 1 + (tI 3 x).length = k + ((tI 3 x).length + 1) by omega, show m + 1 + countT x = m + (1 + (countT x + 0)) by omega]
  simp
 | and c r a v hx hy ihx ihy =>
  rename_i x y
  have hb : BothAt (.mk 4 c r a v [x, y]) (tT (.mk 4 c r a v [x, y])) := by
   obtain ⟨e, h1, h2, h3⟩ := inn2 x ihx
   have hcc : countT (.mk 4 c r a v [x, y]) = 1 + (countT x + (countT y + 0)) := rfl
   rw [tT_and]
   refine ⟨e + 1, by omega, by simp; omega, fun tk k A m f rest hd hm hf => ?_⟩
   simp only [List.length_cons, List.length_append, List.append_assoc, List.cons_append] at hd hf ⊢
   rw [hcc] at hm ⊢
   have hd1 := drop_add hd
   have hd2 := (pk_at (A := A) hd1).2.2
   have hone := inn3 y ihy tk (k + (tI 2 x).length + 1) A (m + countT x + 1) f rest hd2 (by omega) (by omega)
   rw [show f + (e + 1) = (f + 1) + e by omega, h3 tk k A m (f + 1) _ hd (by omega) (by omega), parseF,
    show isR tk ⟨k + (tI 2 x).length, 0, A⟩ 3 ⟨#[47, 92]⟩ = true from by rw [is_at hd1]; rfl, next_at hd1 (by simp), more_at (by omega)]
   simp only [okR, decide_true, Bool.and_self, if_true, hone]
   simp only [normT, normL]
   rw [show k + (tI 2 x).length + 1 + (tI 3 y).length = k + ((tI 2 x).length + ((tI 3 y).length + 1)) by omega, show m + countT x + 1 + countT y = m + (1 + (countT x + (countT y + 0))) by omega]
   simp
  exact ⟨either_both hb, fun _ => hb, fun h => absurd h (by simp [levelT])⟩
 | or c r a v hx hy ihx ihy =>
  rename_i x y
  refine ⟨?_, fun h => absurd h (by simp [levelT]), fun h => absurd h (by simp [levelT])⟩
  have hl1 : ¬ levelT x < 1 := level_pos x
  obtain ⟨e, h1, h2, h3⟩ := ihx.1
  have hcc : countT (.mk 5 c r a v [x, y]) = 1 + (countT x + (countT y + 0)) := rfl
  rw [tT_or, tI_out hl1]
  refine ⟨e + 1, by omega, by simp; omega, fun tk k A m f rest hd hn hm hf => ?_⟩
  simp only [List.length_cons, List.length_append, List.append_assoc, List.cons_append] at hd hf ⊢
  rw [hcc] at hm ⊢
  have hd1 := drop_add hd
  have hd2 := (pk_at (A := A) hd1).2.2
  have hboth := both_done (inn2 y ihy) (A := A) (m := m + countT x + 1) (f := f) hd2 hn (by omega) (by omega)
  rw [show f + (e + 1) = (f + 1) + e by omega, h3 tk k A m (f + 1) _ hd (notIs_cons (ne_kt (by decide))) (by omega) (by omega), parseF,
   show isR tk ⟨k + (tT x).length, 0, A⟩ 3 ⟨#[92, 47]⟩ = true from by rw [is_at hd1]; rfl, next_at hd1 (by simp), more_at (by omega)]
  simp only [okR, decide_true, Bool.and_self, if_true, hboth]
  simp only [normT, normL]
  rw [show k + (tT x).length + 1 + (tI 2 y).length = k + ((tT x).length + ((tI 2 y).length + 1)) by omega, show m + countT x + 1 + countT y = m + (1 + (countT x + (countT y + 0))) by omega]
  simp
theorem clean_head {k c r : Int} {a v : Nat} {args : List CT} {k' c' r' : Int} {a' v' : Nat} (hz : zeroT k c r a v args = .mk k' c' r' a' v' args) (h : cleanT (.mk k c r a v args) = true) : (c' = c ∧ r' = r ∧ a' = a ∧ v' = v) ∧ cleanL args = true := by
 rw [cleanT, Bool.and_eq_true, hz, sameT, Bool.and_eq_true] at h
 have h2 := of_decide_eq_true h.1.1
 exact ⟨⟨h2.2.1, h2.2.2.1, h2.2.2.2.1, h2.2.2.2.2.1⟩, h.2⟩
end
section
open Go.RowKit
theorem toks_word : ∀ (n : Nat) (s : ByteArray) (i : Nat) (acc : List (Nat × Nat × Nat)), s.size - i = n → (∀ r ∈ acc, r.1 = 1 → pcOK (1, (s.extract r.2.1 r.2.2).data.toList)) → ∀ r ∈ (toksF s i acc).1, r.1 = 1 → pcOK (1, (s.extract r.2.1 r.2.2).data.toList) := by
 intro n
 induction n using Nat.strongRecOn with
 | _ n ih =>
  intro s i acc hn hacc
  rw [toksF]
  by_cases h : i < s.size
  ·rw [dif_pos h]
   by_cases h9 : (stepF s i).1 = 9
   ·rw [if_pos h9]; intro r hr; simp at hr
   ·rw [if_neg h9]
    by_cases h2 : i < (stepF s i).2.1
    ·rw [dif_pos h2]
     refine ih (s.size - (stepF s i).2.1) (by omega) s _ _ rfl ?_
     by_cases h0 : (stepF s i).1 = 0
     ·rw [if_pos h0]; exact hacc
     ·rw [if_neg h0]
      intro r hr h1
      rcases List.mem_append.1 hr with hr | hr
      ·exact hacc r hr h1
      ·have e : r = ((stepF s i).1, i, (stepF s i).2.1) := by simpa using hr
       subst e
       simp only at h1
       have hs : letterB (bt s i) = true ∧ ¬ 24 < wordE s i - i ∧ digitB (bt s i) = false ∧ (stepF s i).2.1 = wordE s i := by
        unfold stepF at h1 ⊢
        split at h1
        ·cases h1
        rename_i a1
        rw [if_neg a1]
        split at h1
        ·cases h1
        rename_i a2
        rw [if_neg a2]
        split at h1
        ·cases h1
        rename_i a3
        rw [if_neg a3]
        split at h1
        ·cases h1
        rename_i a4
        rw [if_neg a4]
        split at h1
        ·split at h1 <;> cases h1
        rename_i a5
        rw [if_neg a5]
        exact ⟨by simpa using a3, a4, by simpa using a5, rfl⟩
       obtain ⟨q1, q2, q3, q4⟩ := hs
       simp only
       rw [q4] at h2 ⊢
       rw [extract_seg]
       have hl := len_list s
       have hb := (wordE_bd s i).2 (by omega)
       have hlen := seg_len (L := s.data.toList) (Nat.le_of_lt h2) (by omega)
       refine .inr (.inr (.inl ⟨rfl, ?_, by show (seg s.data.toList i (wordE s i)).length ≤ 24; omega, ?_⟩))
       ·rw [List.all_eq_true]
        intro c hc
        obtain ⟨j, hj, e⟩ := List.getElem_of_mem hc
        rw [hlen] at hj
        have hsp := (scan_spec (nonLet s) s.size _ i rfl).1 (i + j) (by omega) (by unfold wordE at hj h2; omega)
        have e2 : s.data.toList[i + j]'(by omega) = c := by
         rw [← e]; simp [seg]
        have hx : (!letterB (bt s (i + j))) = false := hsp
        rw [bt_seg (by omega), e2] at hx
        simpa [letU] using hx
       ·refine ⟨s.data.toList[i]'(by omega), _, seg_cons h2 (by omega), ?_⟩
        rw [← bt_seg (by omega)]; exact q3
    ·rw [dif_neg h2]; intro r hr; simp at hr
  ·rw [dif_neg h]
   intro r hr h1
   rcases List.mem_append.1 hr with hr | hr
   ·exact hacc r hr h1
   ·have e : r = (4, s.size, s.size) := by simpa using hr
    subst e; cases h1
theorem peek_word (t : ByteArray) (a : Nat) (s : RS) (h : (peekR (tkOf t a (toksF t 0 []).1) s).1 = 1) : pcOK (1, (peekR (tkOf t a (toksF t 0 []).1) s).2.1.data.toList) := by
 unfold peekR at h ⊢
 rw [List.getD_eq_getElem?_getD] at h ⊢
 rcases hq : (tkOf t a (toksF t 0 []).1)[s.k]? with _ | q
 ·rw [hq] at h; cases h
 ·rw [hq] at h
  have hm := List.mem_of_getElem? hq
  simp only [tkOf, List.mem_map] at hm
  obtain ⟨r, hr, e⟩ := hm
  subst e
  exact toks_word _ t 0 [] rfl (by simp) r hr (by have : ((r.1 : Nat) : Int) = 1 := h; omega)
abbrev W64 : Nat := 18446744073709551616
theorem orW {a b : Nat} (ha : a < W64) (hb : b < W64) : a ||| b < W64 := Nat.or_lt_two_pow (n := 64) ha hb
theorem flagD_lt (b : Bool) (n : Nat) (hn : n < 64) : flagD b n < W64 := by
 unfold flagD; split
 ·exact Nat.pow_lt_pow_right (by decide) hn
 ·decide
theorem encD_lt (t : Bool) (o : Nat) (a b c d : Bool) (l : Nat) : (encD t o a b c d l).1 < W64 := by
 unfold encD
 split
 ·decide
 ·rename_i h
  have ho : o < W64 := by
   have : ¬ 4294967296 ≤ o := fun e => h (.inl e)
   show o < 18446744073709551616; omega
  exact orW (orW (orW ho (by decide)) (flagD_lt _ _ (by decide))) (orW (orW (orW (flagD_lt _ _ (by decide)) (flagD_lt _ _ (by decide))) (flagD_lt _ _ (by decide))) (flagD_lt _ _ (by decide)))
theorem litV_lt (tk : List Tk) (s : RS) : (litV tk s).1 < W64 := by
 unfold litV
 dsimp only
 split
 ·exact encD_lt _ _ _ _ _ _ _
 split
 ·exact encD_lt _ _ _ _ _ _ _
 split
 ·exact encD_lt _ _ _ _ _ _ _
 ·exact numberR_lt tk s
def CMade (t : CT) : Prop := t.Fits ∧ cleanT t = true
theorem cmade_mk {k c r : Int} {a v : Nat} {args : List CT} (h : a < W64 ∧ v < W64 ∧ I64 k ∧ I64 c ∧ I64 r) (hz : zeroT k c r a v args = .mk k c r a v args) (ha : ∀ u ∈ args, CMade u) : CMade (.mk k c r a v args) := by
 refine ⟨.mk h (fun u hu => (ha u hu).1), ?_⟩
 rw [cleanT, hz, sameT_refl, Bool.true_and]
 exact cleanL_all args (fun j hj => (ha _ (List.getElem_mem hj)).2)
theorem i64c (k : Int) (h : -100 ≤ k ∧ k ≤ 100) : I64 k := by unfold I64; omega
theorem cmade_0 : CMade cF := cmade_mk ⟨by decide, by decide, i64c _ (by decide), i64c _ (by decide), i64c _ (by decide)⟩ rfl (by simp)
theorem leaf_made (tk : List Tk) (s : RS) : CMade (leafR tk s).1 := by
 have z : I64 0 := i64c 0 (by decide)
 have z1 : I64 1 := i64c _ (by decide)
 have z2 : I64 2 := i64c _ (by decide)
 have z3 : I64 3 := i64c _ (by decide)
 have z7 : I64 7 := i64c _ (by decide)
 unfold leafR
 split
 ·exact cmade_mk ⟨numberR_lt _ _, numberR_lt _ _, z2, z, z⟩ rfl (by simp)
 split
 ·exact cmade_mk ⟨by decide, by decide, z7, z, z⟩ rfl (by simp)
 split
 ·exact cmade_mk ⟨by decide, numberR_lt _ _, z3, i64c _ (by have := smallR_lt tk (nextR tk s) 4 (by decide); omega), z⟩ rfl (by simp)
 ·refine cmade_mk ⟨by decide, numberR_lt _ _, z1, i64c _ (by have := smallR_lt tk s 4 (by decide); omega), i64c _ ?_⟩ rfl (by simp)
  rcases hq : regN (peekR tk (mustR tk (smallR tk s 4).2 3 ⟨#[58]⟩)).2.1 with _ | j
  ·simp
  ·have := regN_lt hq
   simp only [Option.getD_some]; omega
def PF.made : PF → Prop
 | .bothL c => CMade c
 | .eitherL c => CMade c
 | _ => True
theorem parse_made (tk : List Tk) : ∀ (f : Nat) (F : PF) (s : RS) (m : Nat), F.made → CMade (parseF tk f F s m).1
 | 0, _, s, m, _ => by unfold parseF; exact cmade_0
 | f + 1, .either, s, m, _ => by simp only [parseF]; exact parse_made tk f (.eitherL _) _ _ (parse_made tk f .both s m trivial)
 | f + 1, .both, s, m, _ => by simp only [parseF]; exact parse_made tk f (.bothL _) _ _ (parse_made tk f .one s m trivial)
 | f + 1, .eitherL c, s, m, h => by
  simp only [parseF]; split
  ·refine parse_made tk f (.eitherL _) _ _ (cmade_mk ⟨by decide, by decide, i64c _ (by decide), i64c _ (by decide), i64c _ (by decide)⟩ rfl ?_)
   intro u hu
   simp only [List.mem_cons, List.not_mem_nil, or_false] at hu
   rcases hu with rfl | rfl
   ·exact h
   ·exact parse_made tk f .both _ _ trivial
  ·exact h
 | f + 1, .bothL c, s, m, h => by
  simp only [parseF]; split
  ·refine parse_made tk f (.bothL _) _ _ (cmade_mk ⟨by decide, by decide, i64c _ (by decide), i64c _ (by decide), i64c _ (by decide)⟩ rfl ?_)
   intro u hu
   simp only [List.mem_cons, List.not_mem_nil, or_false] at hu
   rcases hu with rfl | rfl
   ·exact h
   ·exact parse_made tk f .one _ _ trivial
  ·exact h
 | f + 1, .one, s, m, _ => by
  simp only [parseF]; split
  ·exact parse_made tk f .either _ _ trivial
  ·split
   ·split
    ·refine cmade_mk ⟨by decide, by decide, i64c _ (by decide), i64c _ (by decide), i64c _ (by decide)⟩ rfl ?_
     intro u hu
     have e : u = _ := List.mem_singleton.1 hu
     subst e
     exact parse_made tk f .one _ _ trivial
    ·exact leaf_made tk _
   ·exact cmade_0
structure Made (x : SrcA) : Prop where
 name : x.after = 0 ∨ pcOK (1, x.name.data.toList)
 tables : ∀ t ∈ x.tables, t < W64
 cells : ∀ p ∈ x.cells, p.1 < W64 ∧ p.2 < W64
 cores : ∀ c ∈ x.cores, (∀ v ∈ c.regs, v < W64) ∧ c.space < 65536 ∧ c.table < W64
 cond : CMade x.cond
theorem made0 : Made src0 := ⟨.inl rfl, by simp [src0], by simp [src0], by simp [src0], cmade_0⟩
theorem Made.like {x y : SrcA} (h : Made x) (ha : x.after = 0 → y.after = 0) (e1 : y.name = x.name) (e2 : y.tables = x.tables) (e3 : y.cells = x.cells) (e4 : y.cores = x.cores) (e5 : y.cond = x.cond) : Made y :=
 ⟨by rw [e1]; exact h.name.imp ha id, by rw [e2]; exact h.tables, by rw [e3]; exact h.cells, by rw [e4]; exact h.cores, by rw [e5]; exact h.cond⟩
theorem made_last {x : SrcA} (h : Made x) (f : CoreA → CoreA) (hf : ∀ c, ((∀ v ∈ c.regs, v < W64) ∧ c.space < 65536 ∧ c.table < W64) → (∀ v ∈ (f c).regs, v < W64) ∧ (f c).space < 65536 ∧ (f c).table < W64) : Made (lastF x f) := by
 rcases hc : x.cores.getLast? with _ | c
 ·unfold lastF; rw [hc]; exact h
 ·obtain ⟨l, hx⟩ := List.getLast?_eq_some_iff.1 hc
  rw [lastF_eq hx]
  refine ⟨h.name, h.tables, h.cells, fun d hd => ?_, h.cond⟩
  rcases List.mem_append.1 hd with hd | hd
  ·exact h.cores d (by rw [hx]; exact List.mem_append_left _ hd)
  ·have e : d = f c := by simpa using hd
   subst e; exact hf c (h.cores c (by rw [hx]; simp))
theorem ins_made {x : SrcA} (h : Made x) (t : ByteArray) (a : Int) : Made (insR x t a).1 := by
 unfold insR
 split
 ·exact h
 ·dsimp only
  split
  ·have k := made_last h (fun c => if x.after = 2 then { c with code := c.code ++ [(parseA t.data.toList).1] } else { c with hand := c.hand ++ [(parseA t.data.toList).1] }) (fun c hc => by split <;> exact hc)
   exact k.like id rfl rfl rfl rfl rfl
  ·exact h
theorem end_ok {tk : List Tk} {s : RS} (h : (endR tk s).code = 0) : s.code = 0 := by
 unfold endR at h
 split at h
 ·exact h
 ·exact (mono_fail tk s 110).code h
theorem switch_made {x : SrcA} (h : Made x) (t : ByteArray) (a : Nat) (s : RS) (w : ByteArray) (h0 : ¬ w = wTest → ¬ x.after = 0) (at_ : Int) (hok : (switchR (tkOf t a (toksF t 0 []).1) x s w at_).2.code = 0) : Made (switchR (tkOf t a (toksF t 0 []).1) x s w at_).1 := by
 unfold switchR at hok ⊢
 split at hok
 ·rename_i e; rw [if_pos e]
  unfold testR at hok ⊢
  refine ⟨.inr ?_, h.tables, h.cells, h.cores, h.cond⟩
  apply peek_word
  have hc := (mono_next _ _).code hok
  split at hc
  ·rename_i e1; exact e1
  ·exfalso
   unfold failR at hc
   split at hc
   ·exact absurd hc (by show ¬ (110 : Int) = 0; decide)
   ·rename_i e2; exact e2 hc
 rename_i e; rw [if_neg e]
 have hnm : pcOK (1, x.name.data.toList) := h.name.resolve_left (h0 e)
 split at hok
 ·rename_i e; rw [if_pos e]
  unfold tableR; split
  ·refine ⟨h.name, fun v hv => ?_, h.cells, h.cores, h.cond⟩
   rcases List.mem_append.1 hv with hv | hv
   ·exact h.tables v hv
   ·have e : v = _ := List.mem_singleton.1 hv
    rw [e]; exact numberR_lt _ _
  ·exact h
 rename_i e; rw [if_neg e]
 split at hok
 ·rename_i e; rw [if_pos e]
  unfold cellR; split
  ·refine ⟨h.name, h.tables, fun v hv => ?_, h.cores, h.cond⟩
   rcases List.mem_append.1 hv with hv | hv
   ·exact h.cells v hv
   ·have e : v = _ := List.mem_singleton.1 hv
    rw [e]; exact ⟨numberR_lt _ _, litV_lt _ _⟩
  ·exact h
 rename_i e; rw [if_neg e]
 split at hok
 ·rename_i e; rw [if_pos e]
  unfold coreR
  refine ⟨.inr hnm, h.tables, h.cells, fun c hc => ?_, h.cond⟩
  ·rcases List.mem_append.1 hc with hc | hc
   ·exact h.cores c hc
   ·have e : c = _ := List.mem_singleton.1 hc
    rw [e]
    refine ⟨fun v hv => by rw [List.eq_of_mem_replicate hv]; decide, ?_, numberR_lt _ _⟩
    have key : ∀ (b : Bool) (r : RS), (if b = true then smallR (tkOf t a (toksF t 0 []).1) r 65536 else (0, r)).1 < 65536 := fun b r => by
     cases b
     ·rw [if_neg (by simp)]; show 0 < 65536; decide
     ·rw [if_pos rfl]; exact smallR_lt _ _ _ (by decide)
    exact key _ _
 rename_i e; rw [if_neg e]
 split at hok
 ·rename_i e; rw [if_pos e]
  unfold regR'
  split
  ·refine made_last h _ (fun c hc => ⟨fun v hv => ?_, hc.2⟩)
   rcases List.mem_or_eq_of_mem_set hv with hv | hv
   ·exact hc.1 v hv
   ·rw [hv]; exact litV_lt _ _
  ·exact h
 rename_i e; rw [if_neg e]
 split at hok
 ·rename_i e; rw [if_pos e]
  exact ⟨.inr hnm, h.tables, h.cells, h.cores, h.cond⟩
 ·rename_i e; rw [if_neg e]
  exact ⟨.inr hnm, h.tables, h.cells, h.cores, parse_made _ _ _ _ _ trivial⟩
theorem row_made {x : SrcA} (h : Made x) (t : ByteArray) (a : Nat) (hok : (rowA x t a).2.1 = 0) : Made (rowA x t a).1 := by
 unfold rowA at hok ⊢
 dsimp only at hok ⊢
 split at hok
 ·exact absurd hok (by show ¬ (110 : Int) = 0; decide)
 rename_i hA
 rw [if_neg hA]
 split at hok
 ·rename_i hB; rw [if_pos hB]; exact ins_made h t _
 rename_i hB
 rw [if_neg hB]
 split at hok
 ·rename_i hC; rw [if_pos hC]; exact h
 rename_i hC
 rw [if_neg hC]
 refine switch_made h t a _ _ (fun e h1 => hA (.inr ?_)) _ (end_ok hok)
 rw [decide_eq_true h1, decide_eq_false e]; simp
theorem rows_made (s : ByteArray) : ∀ (l : List (Nat × Nat)) (x : SrcA), Made x → (rowsA s x l).2.1 = 0 → Made (rowsA s x l).1 ∧ (rowsA s x l).1.after = 4
 | [], x, h, h0 => by
  rw [rowsA] at h0 ⊢
  split at h0
  ·rename_i h4; rw [if_pos h4]; exact ⟨h, h4⟩
  ·exact absurd h0 (by show ¬ (110 : Int) = 0; decide)
 | r :: l, x, h, h0 => by
  rw [rowsA] at h0 ⊢
  try dsimp only at h0 ⊢
  split at h0
  ·rename_i hc
   rw [if_pos hc]
   exact rows_made s l _ (row_made h _ _ hc) h0
  ·rename_i hc; exact absurd h0 hc
theorem lit_made {s : ByteArray} (h : (litA s).2.1 = 0) : Made (litA s).1 ∧ (litA s).1.after = 4 := by
 obtain ⟨_, hL⟩ := litA_ok h
 rw [hL] at h ⊢
 exact rows_made s _ _ made0 h
end
section
open Go.RowKit
def PF.base : PF → Nat
 | .bothL c => countT c
 | .eitherL c => countT c
 | _ => 1
theorem count_pos (t : CT) : 1 ≤ countT t := by cases t; rw [countT]; omega
theorem base_pos (F : PF) : 1 ≤ F.base := by cases F <;> simp [PF.base, count_pos]
theorem count_leaf (tk : List Tk) (s : RS) : countT (leafR tk s).1 = 1 := by
 unfold leafR
 split
 ·rfl
 split
 ·rfl
 split
 ·rfl
 ·rfl
theorem count_parse (tk : List Tk) : ∀ (f : Nat) (F : PF) (s : RS) (m : Nat), countT (parseF tk f F s m).1 + 2 * m ≤ F.base + 2 * (parseF tk f F s m).2.2
 | 0, F, s, m => by
  have := base_pos F
  unfold parseF
  show countT cF + 2 * m ≤ F.base + 2 * m
  rw [show countT cF = 1 from rfl]; omega
 | f + 1, .either, s, m => by
  simp only [parseF]
  have h1 := count_parse tk f .both s m
  have h2 := count_parse tk f (.eitherL (parseF tk f .both s m).1) (parseF tk f .both s m).2.1 (parseF tk f .both s m).2.2
  simp only [PF.base] at h1 h2 ⊢
  omega
 | f + 1, .both, s, m => by
  simp only [parseF]
  have h1 := count_parse tk f .one s m
  have h2 := count_parse tk f (.bothL (parseF tk f .one s m).1) (parseF tk f .one s m).2.1 (parseF tk f .one s m).2.2
  simp only [PF.base] at h1 h2 ⊢
  omega
 | f + 1, .eitherL c, s, m => by
  simp only [parseF]
  split
  ·have h1 := count_parse tk f .both (moreR tk (nextR tk s) m) (m + 1)
   generalize parseF tk f .both (moreR tk (nextR tk s) m) (m + 1) = y at *
   have h2 := count_parse tk f (.eitherL (.mk 5 0 0 0 0 [c, y.1])) y.2.1 y.2.2
   simp only [PF.base, countT, countL] at h1 h2 ⊢
   omega
  ·simp [PF.base]
 | f + 1, .bothL c, s, m => by
  simp only [parseF]
  split
  ·have h1 := count_parse tk f .one (moreR tk (nextR tk s) m) (m + 1)
   generalize parseF tk f .one (moreR tk (nextR tk s) m) (m + 1) = y at *
   have h2 := count_parse tk f (.bothL (.mk 4 0 0 0 0 [c, y.1])) y.2.1 y.2.2
   simp only [PF.base, countT, countL] at h1 h2 ⊢
   omega
  ·simp [PF.base]
 | f + 1, .one, s, m => by
  simp only [parseF]
  split
  ·have h1 := count_parse tk f .either (nextR tk s) m
   simp only [PF.base] at h1 ⊢
   omega
  ·split
   ·split
    ·have h1 := count_parse tk f .one (nextR tk (moreR tk s m)) (m + 1)
     generalize parseF tk f .one (nextR tk (moreR tk s m)) (m + 1) = y at *
     simp only [PF.base, countT, countL] at h1 ⊢
     omega
    ·rw [count_leaf]; simp only [PF.base]; omega
   ·rw [show countT cF = 1 from rfl]; simp only [PF.base]; omega
theorem count_read (tk : List Tk) (s : RS) : countT (parseC tk s).1 ≤ 133 := by
 unfold parseC
 have h1 := count_parse tk (4 * tk.length + 3) .either s 0
 have h2 := (few_parse tk (4 * tk.length + 3) .either s 0 ⟨by simp, fun _ => by simp⟩).1
 simp only [PF.base] at h1 ⊢
 omega
theorem lastF_cond (x : SrcA) (f : CoreA → CoreA) : (lastF x f).cond = x.cond := by
 unfold lastF; split <;> rfl
theorem row_cnt {x : SrcA} (h : countT x.cond ≤ 133) (t : ByteArray) (a : Nat) : countT (rowA x t a).1.cond ≤ 133 := by
 unfold rowA
 dsimp only
 split
 ·exact h
 split
 ·unfold insR
  split
  ·exact h
  ·dsimp only
   split
   ·show countT (lastF x _).cond ≤ 133
    rw [lastF_cond]; exact h
   ·exact h
 split
 ·exact h
 ·unfold switchR
  split
  ·exact h
  split
  ·unfold tableR; split <;> exact h
  split
  ·unfold cellR; split <;> exact h
  split
  ·exact h
  split
  ·unfold regR'
   split
   ·dsimp only; rw [lastF_cond]; exact h
   ·exact h
  split
  ·exact h
  ·exact count_read _ _
theorem rows_cnt (s : ByteArray) : ∀ (l : List (Nat × Nat)) (x : SrcA), countT x.cond ≤ 133 → countT (rowsA s x l).1.cond ≤ 133
 | [], x, h => by
  unfold rowsA
  split
  ·exact h
  ·show countT cF ≤ 133; decide
 | r :: l, x, h => by
  unfold rowsA
  dsimp only
  split
  ·exact rows_cnt s l _ (row_cnt h _ _)
  ·show countT cF ≤ 133; decide
theorem lit_cnt (s : ByteArray) : countT (litA s).1.cond ≤ 133 := by
 unfold litA
 split
 ·exact rows_cnt s _ _ (by decide)
 ·show countT cF ≤ 133; decide
theorem gsizes_lit {s : ByteArray} (h : (litA s).2.1 = 0) (hs : Sizes (litA s).1 20000) : GSizes (gsrc (litA s).1) := by
 obtain ⟨hm, _⟩ := lit_made h
 have hc := lit_cnt s
 generalize (litA s).1 = x at *
 refine ⟨hs.cells, by simpa [gsrc] using hs.cores, hs.tables, ?_, ?_, ?_, ?_, ?_, ?_, ?_, ?_, ?_, ?_⟩
 ·have := hs.pT; show x.pT.length ≤ _; unfold maxLen; omega
 ·have := hs.pC; show x.pC.length ≤ _; unfold maxLen; omega
 ·have := hs.pCo; show x.pCo.length ≤ _; unfold maxLen; omega
 ·have := hs.pI; show x.pI.length ≤ _; unfold maxLen; omega
 ·intro q hq; have := hs.ins q hq; unfold maxLen; omega
 ·intro c hcm
  obtain ⟨d, hd, rfl⟩ := List.mem_map.1 (show c ∈ x.cores.map gcore from hcm)
  have := hs.code d hd
  exact ⟨this.1, this.2.1, by show d.regs.length ≤ _; omega⟩
 ·exact hm.tables
 ·exact hm.cells
 ·intro c hcm
  obtain ⟨d, hd, rfl⟩ := List.mem_map.1 (show c ∈ x.cores.map gcore from hcm)
  have := hm.cores d hd
  exact ⟨this.2.2, this.1⟩
 ·show countT x.cond ≤ _; omega
end
section
open Go.RowKit
theorem Parts.grd {w : World} {f : Nat → Nat} {B : Nat} {x : SrcA} {v : SrcV} (h : Parts w f B x v) (hs : GSizes (gsrc x)) : GRd w (gsrc x) v := by
 have own : ∀ {l : Nat} {e : TypeId} {size : Nat} {v : Value} {n : Nat} {xs : List Value}, OwnL w f B l e size v n xs → RdV w size v n xs := fun h => by
  exact Rds.of_own h.1
 have hl : (gsrc x).cores.length = x.cores.length := by simp [gsrc]
 have e : ∀ (i : Nat) (h : i < x.cores.length), (gsrc x).cores[i]'(by rw [hl]; exact h) = gcore x.cores[i] := fun i h => by simp [gsrc]
 refine ⟨own h.cells, ?_, by rw [h.lenc, hl], fun i h1 h2 => ?_, ⟨_, h.cond⟩, own h.tables, own h.pT, own h.pC, own h.pCo, own h.pI, h.leni, fun i h1 h2 => own (h.ins i h1 h2), hs⟩
 ·rw [hl]; show RdV w 5 v.vCo _ (gcoresC v.cvs (x.cores.map gcore)); rw [gcoresC_gsrc]; exact own h.cores
 ·have q := h.core i (by rw [← hl]; exact h1) h2
  rw [e i (by rw [← hl]; exact h1)]
  exact ⟨own q.1, own q.2.1, own q.2.2⟩
end
section
open Go.RowKit
theorem last_none {w : World} {f : Nat → Nat} {B g n : Nat} {x : SrcA} {v : SrcV} (hS : ST w f B g n x v) (h0 : x.cores.length = 0) :
  Calls Tryz.prog 122 #[.pointer (some ⟨g, 0, none⟩)] w fun e w' => e = .returned (.pointer none) ∧ w' = w := by
 obtain ⟨pT, cT, hvT, _⟩ := own_form hS.parts.cores.1
 have c2 := hS.blk.cell 2
 have hgl := hS.lt
 simp only [stC, gz_, gs_] at c2
 rw [hvT, h0] at c2
 clear hS h0 hvT
 go_enter Tryz.func122, Tryz.ntmps122
 go_wp2_with fail
 go_ret
 exact ⟨rfl, rfl⟩
theorem last_some {w : World} {f : Nat → Nat} {B g n : Nat} {x : SrcA} {v : SrcV} (hS : ST w f B g n x v) (m : Nat) (h0 : x.cores.length = m + 1) (gc cap : Nat) (hv : v.vCo = .slice (some ⟨gc, 0, none⟩) (m + 1) cap) :
  Calls Tryz.prog 122 #[.pointer (some ⟨g, 0, none⟩)] w fun e w' => e = .returned (.pointer (some ⟨gc, m * 5, none⟩)) ∧ w' = w := by
 have c2 := hS.blk.cell 2
 have hgl := hS.lt
 simp only [stC, gz_, gs_] at c2
 rw [hv] at c2
 have hm : m ≤ 20000 := by have := hS.sizes.cores; have := hS.small; omega
 have hw : IntKind.i64.wrap (((m : Int) + 1) - 1) = (m : Int) := by simp [IntKind.wrap, IntKind.bits, IntKind.signed]; omega
 have hp : decide ((0 : Int) < (m : Int) + 1) = true := decide_eq_true (by omega)
 clear hS h0 hv
 go_enter Tryz.func122, Tryz.ntmps122
 go_wp2_with fail
 go_ret
 exact ⟨by simp, rfl⟩
end
end Go.Proofs.YtmnojnopejhebaaGreat
