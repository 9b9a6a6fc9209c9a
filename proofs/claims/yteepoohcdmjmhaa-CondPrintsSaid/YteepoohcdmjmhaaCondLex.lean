/- A text that is made of blanks, words, numbers and signs is read as just these: plain. -/
import Derived.Test.YteepoohcdmjmhaaCondRead
namespace Go.Proofs.Yteepoohcdmjmhaa
open Go.RowKit
set_option linter.unusedVariables false
set_option linter.unusedSimpArgs false

/-- A piece of a text: its sort (0 a blank, 1 a word, 2 a number, 3 a sign), its bytes. -/
abbrev Pc := Nat × List UInt8
def flat (ps : List Pc) : List UInt8 := ps.flatMap fun p => p.2
theorem flat_cons (p : Pc) (ps : List Pc) : flat (p :: ps) = p.2 ++ flat ps := rfl
theorem flat_append (a b : List Pc) : flat (a ++ b) = flat a ++ flat b := by simp [flat]
def letU (c : UInt8) : Bool := letterB (c.toNat : Int)
def startsOK : List UInt8 → Bool
  | [] => true
  | c :: _ => !letU c
def signL : List (List UInt8) := [[61], [91], [93], [40], [41], [58], [44], [126], [47, 92], [92, 47]]
def pcOK (p : Pc) : Prop :=
  (p.1 = 0 ∧ p.2 = [32]) ∨ (p.1 = 3 ∧ p.2 ∈ signL) ∨
  (p.1 = 1 ∧ p.2.all letU = true ∧ p.2.length ≤ 24 ∧ ∃ c l, p.2 = c :: l ∧ digitB (c.toNat : Int) = false) ∨
  (p.1 = 2 ∧ p.2.all letU = true ∧ p.2.length ≤ 24 ∧ (∃ c l, p.2 = c :: l ∧ digitB (c.toNat : Int) = true) ∧ (parseL p.2).2 = 0)
def okPs : List Pc → Prop
  | [] => True
  | p :: ps => pcOK p ∧ (p.1 = 1 ∨ p.1 = 2 → startsOK (flat ps) = true) ∧ okPs ps
def marks : Nat → List Pc → List (Nat × Nat × Nat)
  | _, [] => []
  | i, p :: ps => (if p.1 = 0 then [] else [(p.1, i, i + p.2.length)]) ++ marks (i + p.2.length) ps

theorem bt_ba (L : List UInt8) (k : Nat) (h : k < L.length) : bt (ba L) k = (L[k].toNat : Int) := by
  rw [bt_eq (by rw [ba_size]; exact h)]; rfl
theorem bt_at (A : List UInt8) (c : UInt8) (B : List UInt8) : bt (ba (A ++ c :: B)) A.length = (c.toNat : Int) := by
  rw [bt_ba _ _ (by simp)]; simp
theorem bt_at1 (A : List UInt8) (c d : UInt8) (B : List UInt8) : bt (ba (A ++ c :: d :: B)) (A.length + 1) = (d.toNat : Int) := by
  rw [bt_ba _ _ (by simp)]; simp
theorem ba_extract (A B C : List UInt8) : (ba (A ++ (B ++ C))).extract A.length (A.length + B.length) = ba B := by
  apply ba_of
  unfold ba
  simp
theorem ba_extract_end (A B : List UInt8) : (ba (A ++ B)).extract A.length (ba (A ++ B)).size = ba B := by
  rw [ba_size, List.length_append]
  have := ba_extract A B []
  simpa using this
theorem sign_one (A : List UInt8) (c : UInt8) (B : List UInt8) (h2 : ¬ c = 47 ∧ ¬ c = 92) : signB ((ba (A ++ c :: B)).extract A.length (ba (A ++ c :: B)).size) = if sign1 (c.toNat : Int) = true then 1 else 0 := by
  rw [ba_extract_end]
  have e0 : bt (ba (c :: B)) 0 = (c.toNat : Int) := bt_at [] c B
  unfold signB
  rw [if_neg, e0]
  rintro ⟨_, h⟩
  unfold sign2 at h
  rw [e0] at h
  have a : ¬ (c.toNat : Int) = 47 := fun e => h2.1 (by have : c.toNat = 47 := by omega
                                                       exact UInt8.toNat_inj.1 this)
  have b : ¬ (c.toNat : Int) = 92 := fun e => h2.2 (by have : c.toNat = 92 := by omega
                                                       exact UInt8.toNat_inj.1 this)
  rw [beq_eq_false_iff_ne.2 a, beq_eq_false_iff_ne.2 b] at h
  simp at h
theorem sign_two (A : List UInt8) (c d : UInt8) (B : List UInt8) (h2 : (c = 47 ∧ d = 92) ∨ (c = 92 ∧ d = 47)) : signB ((ba (A ++ c :: d :: B)).extract A.length (ba (A ++ c :: d :: B)).size) = 2 := by
  rw [ba_extract_end]
  have e0 : bt (ba (c :: d :: B)) 0 = (c.toNat : Int) := bt_at [] c (d :: B)
  have e1 : bt (ba (c :: d :: B)) 1 = (d.toNat : Int) := bt_at1 [] c d B
  unfold signB
  rw [if_pos]
  refine ⟨by rw [ba_size]; simp, ?_⟩
  unfold sign2
  rw [e0, e1]
  rcases h2 with ⟨rfl, rfl⟩ | ⟨rfl, rfl⟩ <;> decide
theorem scan_run (p : Nat → Bool) (to : Nat) : ∀ (n i : Nat), (∀ j, j < n → p (i + j) = false) → i + n ≤ to → (i + n = to ∨ p (i + n) = true) → scan p to i = i + n
  | 0, i, _, h2, h3 => by
    by_cases h : i < to
    · rw [scan_hit h (by rcases h3 with h3 | h3
                         · omega
                         · simpa using h3)]; rfl
    · rw [scan_stop h]; rfl
  | n + 1, i, h1, h2, h3 => by
    rw [scan_miss (by omega) (by simpa using h1 0 (by omega)), scan_run p to n (i + 1) (fun j hj => by have := h1 (j + 1) (by omega); rwa [show i + 1 + j = i + (j + 1) by omega]) (by omega) (by rw [show i + 1 + n = i + (n + 1) by omega]; exact h3)]
    omega
theorem wordE_run (A B C : List UInt8) (hB : B.all letU = true) (hC : startsOK C = true) : wordE (ba (A ++ (B ++ C))) A.length = A.length + B.length := by
  unfold wordE
  have hs : (ba (A ++ (B ++ C))).size = A.length + (B.length + C.length) := by rw [ba_size]; simp
  refine scan_run _ _ _ _ (fun j hj => ?_) (by omega) ?_
  · unfold nonLet
    rw [bt_ba _ _ (by simp; omega)]
    have : (A ++ (B ++ C))[A.length + j]'(by simp; omega) = B[j] := by
      rw [List.getElem_append_right (by omega)]
      simp only [Nat.add_sub_cancel_left]
      rw [List.getElem_append_left hj]
    rw [this]
    have := List.all_eq_true.1 hB B[j] (List.getElem_mem hj)
    unfold letU at this
    rw [this]; rfl
  · match C, hC with
    | [], _ => exact .inl (by rw [hs]; simp)
    | c :: C, hC =>
      refine .inr ?_
      unfold nonLet
      have := bt_at (A ++ B) c C
      rw [List.append_assoc, List.length_append] at this
      rw [this]
      unfold startsOK letU at hC
      exact hC
theorem letU_not {c : UInt8} (h : letU c = true) : blankB (c.toNat : Int) = false ∧ sign1 (c.toNat : Int) = false ∧ ¬ c = 47 ∧ ¬ c = 92 := by
  have : ∀ n, n < 256 → letU (UInt8.ofNat n) = true → blankB ((UInt8.ofNat n).toNat : Int) = false ∧ sign1 ((UInt8.ofNat n).toNat : Int) = false ∧ ¬ UInt8.ofNat n = 47 ∧ ¬ UInt8.ofNat n = 92 := by decide +kernel
  have h2 := this c.toNat c.toNat_lt
  rw [UInt8.ofNat_toNat] at h2
  exact h2 h
theorem step_piece (A : List UInt8) (p : Pc) (C : List UInt8) (hp : pcOK p) (hC : p.1 = 1 ∨ p.1 = 2 → startsOK C = true) : stepF (ba (A ++ (p.2 ++ C))) A.length = (p.1, A.length + p.2.length, 0) ∧ 0 < p.2.length := by
  obtain ⟨k, b⟩ := p
  rcases hp with ⟨h1, h2⟩ | ⟨h1, h2⟩ | ⟨h1, h2, h3, c, l, h4, h5⟩ | ⟨h1, h2, h3, ⟨c, l, h4, h5⟩, h6⟩
  · simp only at h1 h2; subst h1 h2
    refine ⟨?_, by simp⟩
    unfold stepF
    rw [if_pos]
    · rfl
    · show blankB (bt (ba (A ++ 32 :: C)) A.length) = true
      rw [bt_at]; rfl
  · simp only at h1 h2; subst h1
    unfold signL at h2
    have one : ∀ c : UInt8, sign1 (c.toNat : Int) = true → blankB (c.toNat : Int) = false → (¬ c = 47 ∧ ¬ c = 92) → stepF (ba (A ++ ([c] ++ C))) A.length = (3, A.length + 1, 0) := fun c h1 h2 h3 => by
      have e := sign_one A c C h3
      rw [if_pos h1] at e
      have e2 : signB ((ba (A ++ ([c] ++ C))).extract A.length (ba (A ++ ([c] ++ C))).size) = 1 := e
      rw [stepF_sign (by rw [show A ++ ([c] ++ C) = A ++ c :: C from rfl, bt_at]; exact h2) (by rw [e2]; decide), e2]
    have two : ∀ c d : UInt8, blankB (c.toNat : Int) = false → ((c = 47 ∧ d = 92) ∨ (c = 92 ∧ d = 47)) → stepF (ba (A ++ ([c, d] ++ C))) A.length = (3, A.length + 2, 0) := fun c d h2 h3 => by
      have e2 : signB ((ba (A ++ ([c, d] ++ C))).extract A.length (ba (A ++ ([c, d] ++ C))).size) = 2 := sign_two A c d C h3
      rw [stepF_sign (by rw [show A ++ ([c, d] ++ C) = A ++ c :: d :: C from rfl, bt_at]; exact h2) (by rw [e2]; decide), e2]
    simp only [List.mem_cons, List.not_mem_nil, or_false] at h2
    rcases h2 with rfl | rfl | rfl | rfl | rfl | rfl | rfl | rfl | rfl | rfl
    · exact ⟨one _ rfl rfl (by decide), by simp⟩
    · exact ⟨one _ rfl rfl (by decide), by simp⟩
    · exact ⟨one _ rfl rfl (by decide), by simp⟩
    · exact ⟨one _ rfl rfl (by decide), by simp⟩
    · exact ⟨one _ rfl rfl (by decide), by simp⟩
    · exact ⟨one _ rfl rfl (by decide), by simp⟩
    · exact ⟨one _ rfl rfl (by decide), by simp⟩
    · exact ⟨one _ rfl rfl (by decide), by simp⟩
    · exact ⟨two _ _ rfl (.inl ⟨rfl, rfl⟩), by simp⟩
    · exact ⟨two _ _ rfl (.inr ⟨rfl, rfl⟩), by simp⟩
  · simp only at h1 h2 h3 h4; subst h1 h4
    have hc : letU c = true := List.all_eq_true.1 h2 c (by simp)
    obtain ⟨q1, q2, q3⟩ := letU_not hc
    have hb : bt (ba (A ++ (c :: l ++ C))) A.length = (c.toNat : Int) := bt_at A c (l ++ C)
    have hs : signB ((ba (A ++ (c :: l ++ C))).extract A.length (ba (A ++ (c :: l ++ C))).size) = 0 := by
      have := sign_one A c (l ++ C) q3
      rwa [if_neg (by simp [q2])] at this
    have hw := wordE_run A (c :: l) C h2 (hC (.inl rfl))
    refine ⟨?_, by simp⟩
    rw [stepF_word (by rw [hb]; exact q1) hs (by rw [hb]; exact hc) (by rw [hw]; simp at h3 ⊢; omega) (by rw [hb]; exact h5), hw]
  · simp only at h1 h2 h3 h4 h6; subst h1 h4
    have hc : letU c = true := List.all_eq_true.1 h2 c (by simp)
    obtain ⟨q1, q2, q3⟩ := letU_not hc
    have hb : bt (ba (A ++ (c :: l ++ C))) A.length = (c.toNat : Int) := bt_at A c (l ++ C)
    have hs : signB ((ba (A ++ (c :: l ++ C))).extract A.length (ba (A ++ (c :: l ++ C))).size) = 0 := by
      have := sign_one A c (l ++ C) q3
      rwa [if_neg (by simp [q2])] at this
    have hw := wordE_run A (c :: l) C h2 (hC (.inr rfl))
    refine ⟨?_, by simp⟩
    rw [stepF_num (by rw [hb]; exact q1) hs (by rw [hb]; exact hc) (by rw [hw]; simp at h3 ⊢; omega) (by rw [hb]; exact h5) (by unfold numE; rw [hw, ba_extract]; exact h6), hw]
theorem lex_flat : ∀ (ps : List Pc) (A : List UInt8) (acc : List (Nat × Nat × Nat)), okPs ps →
    toksF (ba (A ++ flat ps)) A.length acc = (acc ++ marks A.length ps ++ [(4, (A ++ flat ps).length, (A ++ flat ps).length)], 0, (A ++ flat ps).length)
  | [], A, acc, _ => by
    rw [toksF_end (by rw [ba_size]; simp [flat]), ba_size]
    simp [marks]
  | p :: ps, A, acc, h => by
    obtain ⟨h1, h2, h3⟩ := h
    obtain ⟨hst, hl⟩ := step_piece A p (flat ps) h1 h2
    have ih := lex_flat ps (A ++ p.2) (acc ++ (if p.1 = 0 then [] else [(p.1, A.length, A.length + p.2.length)])) h3
    rw [flat_cons]
    have e : A ++ (p.2 ++ flat ps) = A ++ p.2 ++ flat ps := by simp
    have hlt : A.length < (ba (A ++ (p.2 ++ flat ps))).size := by rw [ba_size]; simp; omega
    have step : toksF (ba (A ++ (p.2 ++ flat ps))) A.length acc = toksF (ba (A ++ (p.2 ++ flat ps))) (A.length + p.2.length) (acc ++ (if p.1 = 0 then [] else [(p.1, A.length, A.length + p.2.length)])) := by
      rw [toksF, dif_pos hlt, hst]
      have h9 : ¬ p.1 = 9 := by rcases h1 with h | h | h | h <;> omega
      simp only
      rw [if_neg h9, dif_pos (by omega)]
      by_cases h0 : p.1 = 0
      · rw [if_pos h0, if_pos h0, List.append_nil]
      · rw [if_neg h0, if_neg h0]
    rw [step]
    rw [List.length_append] at ih
    rw [e, ih, marks]
    simp [List.append_assoc]
/-- A token without its place. -/
def kt (t : Tk) : Int × ByteArray := (t.1, t.2.1)
def kp (p : Pc) : Int × ByteArray := ((p.1 : Int), ba p.2)
theorem marks_kt : ∀ (ps : List Pc) (A : List UInt8) (at_ : Nat), (tkOf (ba (A ++ flat ps)) at_ (marks A.length ps)).map kt = (ps.filter fun p => decide (¬ p.1 = 0)).map kp
  | [], _, _ => rfl
  | p :: ps, A, at_ => by
    have ih := marks_kt ps (A ++ p.2) at_
    rw [List.length_append] at ih
    have e : A ++ flat (p :: ps) = A ++ p.2 ++ flat ps := by rw [flat_cons]; simp
    rw [marks, List.filter_cons]
    by_cases h0 : p.1 = 0
    · rw [if_pos h0, if_neg (by simp [h0]), e]
      simpa using ih
    · rw [if_neg h0, if_pos (by simp [h0]), List.map_cons, ← ih, e]
      have hx := ba_extract A p.2 (flat ps)
      rw [← List.append_assoc] at hx
      simp only [tkOf, List.map_append, List.map_cons, List.map_nil, kt, kp, List.singleton_append, hx]
/-- The tokens of such a text. -/
theorem lex_pieces (ps : List Pc) (h : okPs ps) : ∃ K, toksF (ba (flat ps)) 0 [] = (K, 0, (flat ps).length) ∧ (tkOf (ba (flat ps)) 0 K).map kt = (ps.filter fun p => decide (¬ p.1 = 0)).map kp ++ [(4, ByteArray.empty)] := by
  refine ⟨_, lex_flat ps [] [] h, ?_⟩
  have := marks_kt ps [] 0
  simp only [List.nil_append, List.length_nil] at this ⊢
  rw [show tkOf (ba (flat ps)) 0 (marks 0 ps ++ [(4, (flat ps).length, (flat ps).length)]) = tkOf (ba (flat ps)) 0 (marks 0 ps) ++ tkOf (ba (flat ps)) 0 [(4, (flat ps).length, (flat ps).length)] by simp [tkOf], List.map_append, this]
  congr 1
  simp [tkOf, kt]
end Go.Proofs.Yteepoohcdmjmhaa
