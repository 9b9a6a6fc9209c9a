/- Conditions as texts, alike, clean, right: plain. -/
import Derived.Test.YtcaifejfkpmeeaaGreatMgab
import Derived.Test.YtcaifejfkpmeeaaGreatMgag
import Derived.Test.YtcaifejfkpmeeaaGreatMgbg
namespace Go.Proofs.YtcaifejfkpmeeaaGreat
open Go.RowKit
set_option linter.unusedVariables false
set_option linter.unusedSimpArgs false

theorem checkZ_iff (s : ByteArray) : (checkZ s).1 = 0 ↔ s.size ≤ 16384 ∧ ∀ c ∈ s.data.toList, okB (c.toNat : Int) = true := by
  have hl := len_list s
  unfold checkZ
  by_cases h : 16384 < s.size
  · rw [if_pos h]; constructor
    · intro e; exact absurd e (by show ¬ (2 : Int) = 0; decide)
    · intro e; omega
  · rw [if_neg h]
    have hsp := scan_spec (badB s) s.size _ 0 rfl
    have hg := (scan_ge (badB s) s.size _ 0 rfl).2 (Nat.zero_le _)
    by_cases hb : scan (badB s) s.size 0 < s.size
    · rw [if_pos hb]
      constructor
      · intro e; exact absurd e (by show ¬ (100 : Int) = 0; decide)
      · intro e
        have h2 : (!okB (bt s (scan (badB s) s.size 0))) = true := hsp.2 hb
        rw [bt_seg (by omega), e.2 _ (List.getElem_mem _)] at h2
        exact absurd h2 (by decide)
    · rw [if_neg hb]
      refine ⟨fun _ => ⟨by omega, fun c hc => ?_⟩, fun _ => rfl⟩
      obtain ⟨k, hk, e⟩ := List.getElem_of_mem hc
      have h1 : (!okB (bt s k)) = false := hsp.1 k (Nat.zero_le _) (by omega)
      rw [bt_seg hk, e] at h1
      simpa using h1
theorem texts_of {s t : ByteArray} {l m : List (Nat × Nat)} (h : l.map (fun r => (s.extract r.1 r.2).data.toList) = m.map (fun r => (t.extract r.1 r.2).data.toList)) : l.map (fun r => s.extract r.1 r.2) = m.map (fun r => t.extract r.1 r.2) := by
  have k := congrArg (List.map fun z : List UInt8 => (⟨z.toArray⟩ : ByteArray)) h
  rw [List.map_map, List.map_map] at k
  exact k
/-! Remarks. -/
theorem dropW_nil {α : Type} {P : α → Bool} : ∀ {l : List α}, (∀ c ∈ l, P c = true) → l.dropWhile P = []
  | [], _ => rfl
  | c :: l, h => by rw [List.dropWhile_cons_of_pos (h c List.mem_cons_self)]; exact dropW_nil fun d hd => h d (List.mem_cons_of_mem _ hd)
theorem takeW_all {α : Type} {P : α → Bool} : ∀ {l : List α} (c : α), c ∈ l.takeWhile P → P c = true
  | d :: l, c, h => by
    cases hd : P d
    · rw [List.takeWhile_cons_of_neg (by simp [hd])] at h; simp at h
    · rw [List.takeWhile_cons_of_pos hd] at h
      rcases List.mem_cons.1 h with e | e
      · rw [e]; exact hd
      · exact takeW_all c e
theorem dropW_all {α : Type} {P : α → Bool} : ∀ {l : List α}, l.dropWhile P = [] → ∀ c ∈ l, P c = true
  | c :: l, h, d, hd => by
    cases hc : P c
    · rw [List.dropWhile_cons_of_neg (by simp [hc])] at h; cases h
    · rw [List.dropWhile_cons_of_pos hc] at h
      rcases List.mem_cons.1 hd with e | e
      · rw [e]; exact hc
      · exact dropW_all h d e
theorem trim_blank (l : List UInt8) : trimL (l ++ [32]) = trimL l := by
  unfold trimL
  have hb : blankU 32 = true := by decide
  by_cases h : l.all blankU = true
  · have h1 : ∀ (m : List UInt8), m.all blankU = true → m.dropWhile blankU = [] := by
      intro m hm
      exact dropW_nil fun c hc => List.all_eq_true.1 hm c hc
    rw [h1 l h, h1 (l ++ [32]) (by rw [List.all_append, h]; decide)]
  · have h2 : (l ++ [32]).dropWhile blankU = l.dropWhile blankU ++ [32] := by
      rw [List.dropWhile_append]
      split
      · rename_i he
        exfalso; apply h
        rw [List.all_eq_true]
        have he' : l.dropWhile blankU = [] := by simpa using he
        exact dropW_all he'
      · rfl
    rw [h2, List.reverse_append]
    show ((32 :: (l.dropWhile blankU).reverse).dropWhile blankU).reverse = _
    rw [List.dropWhile_cons_of_pos hb]
theorem cut_remark (R : List UInt8) : ∀ (l : List UInt8), cutL (l ++ [32, 47, 47] ++ R) = cutL l ++ [32] ∨ cutL (l ++ [32, 47, 47] ++ R) = cutL l
  | [] => .inl (by simp [cutL])
  | c :: l => by
    have hh : (l ++ [32, 47, 47] ++ R).head? = some 47 ↔ l.head? = some 47 := by
      cases l with
      | nil => simp
      | cons a l => simp
    show cutL (c :: (l ++ [32, 47, 47] ++ R)) = cutL (c :: l) ++ [32] ∨ cutL (c :: (l ++ [32, 47, 47] ++ R)) = cutL (c :: l)
    rw [cutL, cutL]
    by_cases h : c = 47 ∧ l.head? = some 47
    · rw [if_pos h, if_pos ⟨h.1, hh.2 h.2⟩]; exact .inr rfl
    · rw [if_neg h, if_neg (fun e => h ⟨e.1, hh.1 e.2⟩)]
      rcases cut_remark R l with e | e
      · rw [e]; exact .inl rfl
      · rw [e]; exact .inr rfl
theorem row_remark (R l : List UInt8) : rowL (l ++ [32, 47, 47] ++ R) = rowL l := by
  unfold rowL
  rcases cut_remark R l with e | e
  · rw [e, trim_blank]
  · rw [e]
def bodyL (R L : List UInt8) : List UInt8 := L.flatMap fun c => if c = 10 then [32, 47, 47] ++ R ++ [10] else [c]
theorem rows_body (R : List UInt8) (hR : (10 : UInt8) ∉ R) : ∀ (L p : List UInt8), (10 : UInt8) ∉ p → rowsL (p ++ bodyL R L) = rowsL (p ++ L)
  | [], p, _ => by rfl
  | c :: L, p, hp => by
    by_cases hc : c = 10
    · subst hc
      have e : p ++ bodyL R (10 :: L) = (p ++ [32, 47, 47] ++ R) ++ 10 :: bodyL R L := by simp [bodyL]
      have hp2 : (10 : UInt8) ∉ p ++ [32, 47, 47] ++ R := by
        simp only [List.mem_append, not_or]
        exact ⟨⟨hp, by decide⟩, hR⟩
      rw [e, rowsL_nl _ hp2, rowsL_nl _ hp, row_remark]
      have ih := rows_body R hR L [] (by simp)
      simp only [List.nil_append] at ih
      rw [ih]
    · have e : p ++ bodyL R (c :: L) = (p ++ [c]) ++ bodyL R L := by simp [bodyL, hc]
      have e2 : p ++ c :: L = (p ++ [c]) ++ L := by simp
      rw [e, e2]
      exact rows_body R hR L (p ++ [c]) (by simp only [List.mem_append, List.mem_singleton, not_or]; exact ⟨hp, fun h => hc h.symm⟩)
/-- A text with a remark and an empty line ahead of it, and a remark behind each of its lines. -/
def remL (R L : List UInt8) : List UInt8 := [47, 47, 32] ++ R ++ [10, 10] ++ bodyL R L
theorem rows_rem (R L : List UInt8) (hR : (10 : UInt8) ∉ R) : rowsL (remL R L) = rowsL L := by
  have e : remL R L = ([47, 47, 32] ++ R) ++ 10 :: ([] ++ 10 :: bodyL R L) := by simp [remL]
  have hp : (10 : UInt8) ∉ [47, 47, 32] ++ R := by
    simp only [List.mem_append, not_or]; exact ⟨by decide, hR⟩
  rw [e, rowsL_nl _ hp, rowsL_nl _ (by simp)]
  have ih := rows_body R hR L [] (by simp)
  simp only [List.nil_append] at ih
  rw [ih]
  have e1 : rowL ([47, 47, 32] ++ R) = [] := by
    show rowL (47 :: 47 :: ([32] ++ R)) = []
    unfold rowL; rw [cutL, if_pos ⟨rfl, rfl⟩]; rfl
  rw [e1]; rfl
theorem litA_ok {s : ByteArray} (h : (litA s).2.1 = 0) : (checkZ s).1 = 0 ∧ litA s = rowsA s src0 (rowsF s 0 []) := by
  unfold litA at h ⊢
  by_cases hc : (checkZ s).1 = 0
  · exact ⟨hc, by rw [if_pos hc]⟩
  · rw [if_neg hc] at h; exact absurd h hc
theorem lit_remark {s t : ByteArray} {R : List UInt8} (hR : ∀ c ∈ R, 32 ≤ c.toNat ∧ c.toNat ≤ 126) (ht : t.data.toList = remL R s.data.toList) (h16 : t.size ≤ 16384) (h : (litA s).2.1 = 0) : (litA t).2.1 = 0 ∧ nx (litA s).1 = nx (litA t).1 := by
  obtain ⟨hc, hL⟩ := litA_ok h
  have h10 : (10 : UInt8) ∉ R := fun e => by have := hR _ e; simp at this
  have hc2 := (checkZ_iff s).1 hc
  have hok : ∀ c ∈ R, okB (c.toNat : Int) = true := fun c hcR => by
    have := hR c hcR
    unfold okB
    simp only [Bool.or_eq_true, Bool.and_eq_true, decide_eq_true_eq]
    exact .inr ⟨by omega, by omega⟩
  have hct : (checkZ t).1 = 0 := by
    refine (checkZ_iff t).2 ⟨h16, fun c hcm => ?_⟩
    rw [ht] at hcm
    unfold remL bodyL at hcm
    simp only [List.mem_append, List.mem_flatMap] at hcm
    rcases hcm with ((h1 | h1) | h1) | ⟨d, hd, h1⟩
    · revert c; decide
    · exact hok c h1
    · revert c; decide
    · split at h1
      · simp only [List.mem_append] at h1
        rcases h1 with (h1 | h1) | h1
        · revert c; decide
        · exact hok c h1
        · revert c; decide
      · have e : c = d := by simpa using h1
        subst e; exact hc2.2 c hd
  have hLt : litA t = rowsA t src0 (rowsF t 0 []) := by unfold litA; rw [if_pos hct]
  have htx := texts_of (s := s) (t := t) (l := rowsF s 0 []) (m := rowsF t 0 []) (by rw [rows_all, rows_all, ht, rows_rem _ _ h10])
  rw [hL] at h ⊢
  rw [hLt]
  exact rows_ev s t _ _ src0 src0 rfl htx h
/-! A text that ends ahead of its condition. -/
def runA (s : ByteArray) : SrcA → List (Nat × Nat) → Option SrcA
  | x, [] => some x
  | x, r :: l => if (rowA x (s.extract r.1 r.2) r.1).2.1 = 0 then runA s (rowA x (s.extract r.1 r.2) r.1).1 l else none
theorem rowsA_run (s : ByteArray) : ∀ (l : List (Nat × Nat)) (x y : SrcA), runA s x l = some y → rowsA s x l = if y.after = 4 then (y, 0, 0) else (src0, 110, (s.size : Int))
  | [], x, y, h => by
    have e : x = y := by simpa [runA] using h
    subst e; rfl
  | r :: l, x, y, h => by
    rw [runA] at h
    split at h
    · rename_i hc
      rw [rowsA, if_pos hc]; exact rowsA_run s l _ y h
    · cases h
theorem run_ev (s t : ByteArray) : ∀ (l m : List (Nat × Nat)) (x y x' : SrcA), nx x = nx y → l.map (fun r => s.extract r.1 r.2) = m.map (fun r => t.extract r.1 r.2) → runA s x l = some x' → ∃ y', runA t y m = some y' ∧ nx x' = nx y'
  | [], [], x, y, x', h, _, hr => by
    have e : x = x' := by simpa [runA] using hr
    subst e; exact ⟨y, rfl, h⟩
  | r :: l, [], x, y, x', h, he, _ => by simp at he
  | [], r :: m, x, y, x', h, he, _ => by simp at he
  | r :: l, q :: m, x, y, x', h, he, hr => by
    simp only [List.map_cons, List.cons.injEq] at he
    have k := row_ev h (s.extract r.1 r.2) r.1 q.1
    rw [runA] at hr
    split at hr
    · rename_i hc
      rw [runA, ← he.1, ← k.2, if_pos hc]
      exact run_ev s t l m _ _ x' k.1 he.2 hr
    · cases hr
theorem row_four' {x : SrcA} (h : x.after = 4) (t : ByteArray) (a : Nat) : ¬ (rowA x t a).2.1 = 0 := by
  unfold rowA; dsimp only; rw [if_pos (.inl h)]; show ¬ (110 : Int) = 0; decide
theorem row_cond4 {x : SrcA} (h : ¬ x.after = 4) (t : ByteArray) (a : Nat) (h4 : (rowA x t a).1.after = 4) : (rowA x t a).1.pCond = (a : Int) := by
  unfold rowA at h4 ⊢
  dsimp only at h4 ⊢
  split at h4
  · exact absurd h4 h
  rename_i hA
  rw [if_neg hA]
  split at h4
  · exfalso; apply h
    revert h4
    unfold insR
    split
    · exact id
    · dsimp only
      split
      · unfold lastF; split <;> exact id
      · exact id
  rename_i hB
  rw [if_neg hB]
  split at h4
  · exact absurd h4 h
  rename_i hC
  rw [if_neg hC]
  revert h4
  dsimp only
  unfold switchR
  split
  · intro h4; exact absurd h4 (by show ¬ (1 : Nat) = 4; decide)
  split
  · intro h4; exfalso; apply h; revert h4; unfold tableR; split <;> exact id
  split
  · intro h4; exfalso; apply h; revert h4; unfold cellR; split <;> exact id
  split
  · intro h4; exact absurd h4 (by show ¬ (2 : Nat) = 4; decide)
  split
  · intro h4; exfalso; apply h; revert h4; unfold regR'; split
    · dsimp only; unfold lastF; split <;> exact id
    · exact id
  split
  · intro h4; exact absurd h4 (by show ¬ (3 : Nat) = 4; decide)
  · intro _; rfl
theorem rows_last (s : ByteArray) : ∀ (l : List (Nat × Nat)) (x : SrcA), ¬ x.after = 4 → (rowsA s x l).2.1 = 0 → ∃ l' r x', l = l' ++ [r] ∧ runA s x l' = some x' ∧ ¬ x'.after = 4 ∧ (rowsA s x l).1.pCond = (r.1 : Int)
  | [], x, h, h0 => by
    rw [rowsA, if_neg h] at h0; exact absurd h0 (by show ¬ (110 : Int) = 0; decide)
  | r :: l, x, h, h0 => by
    rw [rowsA] at h0 ⊢
    try dsimp only at h0 ⊢
    split at h0
    · rename_i hc
      rw [if_pos hc]
      by_cases h4 : (rowA x (s.extract r.1 r.2) r.1).1.after = 4
      · cases l with
        | nil =>
          refine ⟨[], r, x, rfl, rfl, h, ?_⟩
          rw [rowsA, if_pos h4]
          exact row_cond4 h _ _ h4
        | cons q l =>
          exfalso
          rw [rowsA] at h0
          try dsimp only at h0
          have := row_four' h4 (s.extract q.1 q.2) q.1
          rw [if_neg this] at h0
          exact this h0
      · obtain ⟨l', q, x', e, hr, hx, hp⟩ := rows_last s l _ h4 h0
        exact ⟨r :: l', q, x', by rw [e]; rfl, by rw [runA, if_pos hc]; exact hr, hx, hp⟩
    · rename_i hc; exact absurd h0 hc
theorem trim_blanks {l : List UInt8} (h : ∀ c ∈ l, blankU c = true) : rowL l = [] := by
  have hc : ∀ c ∈ cutL l, blankU c = true := fun c hc => by
    obtain ⟨m, hm⟩ := cutL_pre l
    exact h c (by rw [hm]; exact List.mem_append_left _ hc)
  unfold rowL trimL
  rw [dropW_nil hc]; rfl
theorem pre_rows : ∀ (n : Nat) (s : ByteArray) (f : Nat) (l' : List (Nat × Nat)) (r : Nat × Nat), s.size + 1 - f = n → f ≤ s.size → rowsF s f [] = l' ++ [r] → f ≤ r.1 ∧ r.1 ≤ s.size ∧ rowsL (seg s.data.toList f r.1) = l'.map (fun q => (s.extract q.1 q.2).data.toList) := by
  intro n
  induction n using Nat.strongRecOn with
  | _ n ih =>
    intro s f l' r hn h he
    have hl := len_list s
    obtain ⟨h10, h1, h2, h3⟩ := line_at h
    have hr := row_seg (s := s) h1 (by omega)
    have hcd := row_cond (s := s) h1 (by omega)
    have hhd := headF_bd s f _ h1
    have hcb := (cutF_bd s f _ h1).2
    rw [rowsF_step h, rowsF_acc _ s _ _ rfl] at he
    generalize scan (nlB s) s.size f = k at *
    rcases List.eq_nil_or_concat (rowsF s (k + 1) []) with hz | ⟨l'', q, hz⟩
    · rw [hz, List.append_nil] at he
      split at he
      · rename_i hc
        have e : l' = [] ∧ r = (headF s f k, tailF s f k) := by
          rcases l' with _ | ⟨a, l'⟩
          · simp at he; exact ⟨rfl, he.symm⟩
          · simp at he
        obtain ⟨rfl, rfl⟩ := e
        refine ⟨hhd.1, by show headF s f k ≤ _; omega, ?_⟩
        show rowsL (seg s.data.toList f (headF s f k)) = []
        have hbl : ∀ c ∈ seg s.data.toList f (headF s f k), blankU c = true := by
          have e : seg s.data.toList f (headF s f k) = (cutL (seg s.data.toList f k)).takeWhile blankU := by
            obtain ⟨m, hm⟩ := cutL_pre (seg s.data.toList f k)
            have e1 : seg s.data.toList f (headF s f k) = (seg s.data.toList f k).take (headF s f k - f) := by
              rw [seg_split hhd.1 (by omega : headF s f k ≤ k), List.take_left' (by rw [seg_len hhd.1 (by omega)])]
            rw [e1, hr.2, Nat.add_sub_cancel_left]
            have h5 : ∀ (x q m : List UInt8), x = q ++ m → x.take (q.takeWhile blankU).length = q.takeWhile blankU := by
              intro x q m h; subst h
              have h6 : (q.takeWhile blankU).length ≤ q.length := (List.takeWhile_prefix _).length_le
              rw [List.take_append_of_le_length h6]
              exact (List.prefix_iff_eq_take.1 (List.takeWhile_prefix _)).symm
            exact h5 _ _ m hm
          rw [e]
          intro c hc
          exact takeW_all c hc
        have hno : (10 : UInt8) ∉ seg s.data.toList f (headF s f k) := fun e => by have := hbl _ e; exact absurd this (by decide)
        rw [rowsL_one hno, trim_blanks hbl]; rfl
      · simp at he
    · rw [List.concat_eq_append] at hz
      rw [hz, ← List.append_assoc] at he
      obtain ⟨hl1, hl2⟩ := List.append_inj' he rfl
      have e2 : r = q := by simpa using hl2.symm
      subst e2
      have hk1 : k + 1 ≤ s.size := by
        rcases Nat.lt_or_ge k s.size with hq | hq
        · omega
        · rw [rowsF_end (by omega)] at hz; simp at hz
      obtain ⟨i1, i2, i3⟩ := ih _ (by omega) s (k + 1) l'' r rfl hk1 hz
      refine ⟨by omega, i2, ?_⟩
      have hk : k < s.size := by omega
      have e10 : seg s.data.toList f r.1 = seg s.data.toList f k ++ 10 :: seg s.data.toList (k + 1) r.1 := by
        rw [seg_split h1 (by omega : k ≤ r.1), seg_cons (a := k) (b := r.1) (by omega) (by omega)]
        rcases h3 with ⟨_, e⟩ | ⟨e0, _⟩
        · have e5 : s.data.toList[k]'(by omega) = 10 := by
            have e6 : (s.data.toList.drop f)[k - f]? = some 10 := by
              rw [e, List.getElem?_append_right (Nat.le_of_eq (seg_len h1 (by omega)))]
              rw [seg_len h1 (by omega), Nat.sub_self]; rfl
            rw [List.getElem?_drop, show f + (k - f) = k by omega, List.getElem?_eq_getElem (by omega)] at e6
            exact Option.some.inj e6
          rw [e5]
        · omega
      rw [e10, rowsL_nl _ h10, i3, ← hl1, List.map_append]
      congr 1
      by_cases hc : headF s f k < tailF s f k
      · rw [if_pos hc, hcd.1 hc, if_neg (by simp)]
        simp only [List.nil_append, List.map_cons, List.map_nil]
        rw [extract_seg, hr.1]
      · rw [if_neg hc]
        cases hq : (rowL (seg s.data.toList f k)).isEmpty
        · exact absurd (hcd.2 hq) hc
        · rfl
theorem lit_prefix {s : ByteArray} (h : (litA s).2.1 = 0) : ∃ m : Nat, (litA s).1.pCond = (m : Int) ∧ m ≤ s.size ∧ litA (s.extract 0 m) = (src0, 110, (m : Int)) := by
  obtain ⟨hc, hL⟩ := litA_ok h
  rw [hL] at h ⊢
  obtain ⟨l', r, x', e, hr, hx, hp⟩ := rows_last s _ src0 (by decide) h
  obtain ⟨_, h2, h3⟩ := pre_rows _ s 0 l' r rfl (Nat.zero_le _) e
  refine ⟨r.1, hp, h2, ?_⟩
  have hsz : (s.extract 0 r.1).size = r.1 := by simp; omega
  have hct : (checkZ (s.extract 0 r.1)).1 = 0 := by
    have hc2 := (checkZ_iff s).1 hc
    refine (checkZ_iff _).2 ⟨by omega, fun c hcm => hc2.2 c ?_⟩
    rw [extract_seg] at hcm
    unfold seg at hcm
    exact List.mem_of_mem_drop (List.mem_of_mem_take hcm)
  have htx := texts_of (s := s) (t := s.extract 0 r.1) (l := l') (m := rowsF (s.extract 0 r.1) 0 []) (by rw [rows_all, extract_seg, h3])
  obtain ⟨y', hy, hxy⟩ := run_ev s (s.extract 0 r.1) l' _ src0 src0 x' rfl htx hr
  have e4 : ¬ y'.after = 4 := by rw [← nx_after hxy]; exact hx
  have e5 := rowsA_run _ _ _ _ hy
  rw [if_neg e4, hsz] at e5
  unfold litA
  rw [if_pos hct, e5]
end Go.Proofs.YtcaifejfkpmeeaaGreat
namespace Go.Proofs.YtcaifejfkpmeeaaGreat
open Go.RowKit
set_option linter.unusedVariables false
set_option linter.unusedSimpArgs false

theorem CT.ind {P : CT → Prop} (h : ∀ k c r a v args, (∀ u ∈ args, P u) → P (.mk k c r a v args)) : ∀ t, P t
  | .mk k c r a v args => h k c r a v args (fun u hu => CT.ind h u)
termination_by t => t
decreasing_by
  have := List.sizeOf_lt_of_mem hu
  simp
  omega
def CT.args : CT → List CT
  | .mk _ _ _ _ _ args => args
/-- The cells of part number j, where they lie. -/
theorem CT.Row.part {w : World} {S : Nat → Prop} {p : Option Addr} {ts : List CT} (h : CT.Row w S p 0 ts) {j : Nat} (hj : j < ts.length) :
    ∃ (g off : Nat) (k c r a v : Int) (q : Option Addr) (l cp : Nat), p = some ⟨g, off, none⟩ ∧ w.cell? ⟨g, off + j * 6, none⟩ = some (.int .i64 k) ∧ w.cell? ⟨g, off + j * 6 + 1, none⟩ = some (.int .i64 c) ∧ w.cell? ⟨g, off + j * 6 + 2, none⟩ = some (.int .i64 r) ∧ w.cell? ⟨g, off + j * 6 + 3, none⟩ = some (.int .u64 a) ∧ w.cell? ⟨g, off + j * 6 + 4, none⟩ = some (.int .u64 v) ∧ w.cell? ⟨g, off + j * 6 + 5, none⟩ = some (.slice q l cp) ∧ CT.At w S ts[j] [.int .i64 k, .int .i64 c, .int .i64 r, .int .u64 a, .int .u64 v, .slice q l cp] := by
  obtain ⟨g, off, es, h1, h2, h3, h4, h5⟩ := h.at_ hj
  have h5' := h5
  generalize ts[j] = u at h5 h5'
  obtain ⟨k, c, r, a, v, args⟩ := u
  unfold CT.At at h5'
  obtain ⟨q, cap, rfl, _⟩ := h5'
  rw [Nat.zero_add] at h4
  exact ⟨g, off, k, c, r, a, v, q, args.length, cap, h1, h4 0 (by omega), h4 1 (by omega), h4 2 (by omega), h4 3 (by omega), h4 4 (by omega), h4 5 (by omega), h5⟩
/-- What a condition's own cells are. -/
theorem CT.At.own {w : World} {S : Nat → Prop} {k c r : Int} {a v : Nat} {args : List CT} {cs : List Value} (h : CT.At w S (.mk k c r a v args) cs) :
    ∃ (p : Option Addr) (cap : Nat), cs = [.int .i64 k, .int .i64 c, .int .i64 r, .int .u64 (a : Nat), .int .u64 (v : Nat), .slice p args.length cap] ∧ args.length ≤ cap ∧ cap ≤ maxLen ∧ a < 18446744073709551616 ∧ (v < 18446744073709551616 ∧ I64 k ∧ I64 c ∧ I64 r) ∧ CT.Row w S p 0 args := by
  unfold CT.At at h
  exact h
theorem CT.Row.below {w w' : World} {S : Nat → Prop} {p : Option Addr} {i : Nat} {ts : List CT} (h : CT.Row w S p i ts) (hb : Below w.heap.size w w') : CT.Row w' S p i ts :=
  CT.Row.keep (fun a v _ hc => (hb.cell (World.block_lt_of_cell? w a hc)).trans hc) p i ts h
/-- The condition's block, made by the call. -/
theorem own_box (w : World) (L : Array Value) : Blk (w.alloc (.cells L 29)) 29 w.heap.size L.toList := by
  have := Blk.new w 29 L.toList
  simpa using this
theorem blk_cells6' {w : World} {g : Nat} {a b c d e f : Value} (h : Blk w 29 g [a, b, c, d, e, f]) :
    w.cell? ⟨g, 0, none⟩ = some a ∧ w.cell? ⟨g, 1, none⟩ = some b ∧ w.cell? ⟨g, 2, none⟩ = some c ∧ w.cell? ⟨g, 3, none⟩ = some d ∧ w.cell? ⟨g, 4, none⟩ = some e ∧ w.cell? ⟨g, 5, none⟩ = some f :=
  ⟨h.cell 0, h.cell 1, h.cell 2, h.cell 3, h.cell 4, h.cell 5⟩
theorem CT.At.drew {w : World} {S : Nat → Prop} {t : CT} {cs : List Value} (h : CT.At w S t cs) : CT.At w.drew S t cs := h.below (Below.refl _ _).drew
theorem cell_below_drew {w w' : World} {p : Addr} {u : Value} (h : w.cell? p = some u) (hb : Below w.drew.heap.size w.drew w') : w'.cell? p = some u := cell_below (show w.drew.cell? p = some u from h) hb
theorem blk_drew {w : World} {T : TypeId} {g : Nat} {cs : List Value} (h : Blk w T g cs) : Blk w.drew T g cs := h
end Go.Proofs.YtcaifejfkpmeeaaGreat
namespace Go.Proofs.YtcaifejfkpmeeaaGreat
open Go.RowKit
set_option linter.unusedVariables false
set_option linter.unusedSimpArgs false

mutual
def countT : CT → Nat
  | .mk _ _ _ _ _ args => 1 + countL args
def countL : List CT → Nat
  | [] => 0
  | t :: ts => countT t + countL ts
end
theorem countL_append : ∀ (a b : List CT), countL (a ++ b) = countL a + countL b
  | [], b => by simp [countL]
  | t :: a, b => by simp only [List.cons_append, countL, countL_append a b]; omega
theorem countL_take (l : List CT) (j : Nat) (hj : j < l.length) : countL (l.take (j + 1)) = countL (l.take j) + countT l[j] ∧ countL (l.take j) + countT l[j] ≤ countL l := by
  have e : countL (l.take (j + 1)) = countL (l.take j) + countT l[j] := by
    rw [List.take_succ_eq_append_getElem hj, countL_append]; simp [countL]
  refine ⟨e, ?_⟩
  have h := countL_append (l.take (j + 1)) (l.drop (j + 1))
  rw [List.take_append_drop] at h
  omega
def hexL (v : Nat) : List UInt8 := [48, 120] ++ txt 16 v
def levelT : CT → Nat
  | .mk k _ _ _ _ _ => if k = 5 then 1 else if k = 4 then 2 else 3
def innerL (least : Nat) (x : Nat × List UInt8) : List UInt8 := if x.1 < least then [40] ++ x.2 ++ [41] else x.2
def argsX (k : Int) : List (Nat × List UInt8) → List UInt8
  | [x] => if k = 6 then [126] ++ innerL 3 x else []
  | [x, y] => if k = 4 then innerL 2 x ++ [32, 47, 92, 32] ++ innerL 3 y else if k = 5 then innerL 1 x ++ [32, 92, 47, 32] ++ innerL 2 y else []
  | _ => []
def nodeX (k : Int) (x1 x2 x3 x4 : List UInt8) (ps : List (Nat × List UInt8)) : List UInt8 :=
  if k = 1 then x1 ++ [58] ++ x2 ++ [61] ++ x4
  else if k = 2 then [91] ++ x3 ++ [93, 61] ++ x4
  else if k = 3 then [102, 97, 117, 108, 116, 115, 32] ++ x1 ++ [61] ++ x4
  else if k = 7 then [116, 114, 117, 101]
  else argsX k ps
def nodeL (k c r : Int) (a v : Nat) (ps : List (Nat × List UInt8)) : List UInt8 := nodeX k (intL c) (regL r) (hexL a) (hexL v) ps
mutual
def printT : CT → List UInt8
  | .mk k c r a v args => nodeL k c r a v (printL args)
def printL : List CT → List (Nat × List UInt8)
  | [] => []
  | t :: ts => (levelT t, printT t) :: printL ts
end
theorem printL_len : ∀ l : List CT, (printL l).length = l.length
  | [] => rfl
  | t :: ts => by simp [printL, printL_len ts]
theorem hexL_len (v : Nat) (hv : v < 18446744073709551616) : (hexL v).length ≤ 66 := by
  have := txt_len64 16 v (by decide) hv
  unfold hexL
  simp; omega
theorem innerL_len (n : Nat) (x : Nat × List UInt8) : (innerL n x).length ≤ x.2.length + 2 := by
  unfold innerL
  split
  · simp
  · omega
/-- The numbers of a condition fit. -/
inductive CT.Fits : CT → Prop
  | mk {k c r : Int} {a v : Nat} {args : List CT} (h : a < 18446744073709551616 ∧ v < 18446744073709551616 ∧ I64 k ∧ I64 c ∧ I64 r) (ha : ∀ u ∈ args, CT.Fits u) : CT.Fits (.mk k c r a v args)
theorem CT.At.fits {w : World} {S : Nat → Prop} : ∀ (t : CT) (cs : List Value), CT.At w S t cs → t.Fits := by
  intro t
  refine CT.ind (P := fun t => ∀ cs : List Value, CT.At w S t cs → t.Fits) ?_ t
  intro k c r a v args IH cs h
  obtain ⟨p, cap, rfl, h1, h2, h3, h4, h5⟩ := h.own
  refine .mk ⟨h3, h4⟩ (fun u hu => ?_)
  obtain ⟨j, hj, rfl⟩ := List.getElem_of_mem hu
  obtain ⟨g, off, es, _, _, _, _, h6⟩ := h5.at_ hj
  exact IH _ hu _ h6
theorem print_len : ∀ (t : CT), t.Fits → (printT t).length ≤ 300 * countT t := by
  intro t
  refine CT.ind (P := fun t => t.Fits → (printT t).length ≤ 300 * countT t) ?_ t
  intro k c r a v args IH h
  cases h with
  | mk h ha =>
    obtain ⟨h1, h2, h3, h4, h5⟩ := h
    have b1 := intL_len c h4
    have b2 := regL_len r h5
    have b3 := hexL_len a h1
    have b4 := hexL_len v h2
    rw [printT, countT]
    unfold nodeL nodeX
    split
    · simp; omega
    · split
      · simp; omega
      · split
        · simp; omega
        · split
          · simp; omega
          · match args, IH, ha with
            | [], _, _ => simp [printL, argsX]
            | [x], IH, ha =>
              have hx := IH x (by simp) (ha x (by simp))
              have hi := innerL_len 3 (levelT x, printT x)
              simp only [printL, countL, argsX]
              split
              · simp at hi ⊢; omega
              · simp
            | [x, y], IH, ha =>
              have hx := IH x (by simp) (ha x (by simp))
              have hy := IH y (by simp) (ha y (by simp))
              have hi := innerL_len 2 (levelT x, printT x)
              have hi1 := innerL_len 1 (levelT x, printT x)
              have hj := innerL_len 3 (levelT y, printT y)
              have hj2 := innerL_len 2 (levelT y, printT y)
              simp only [printL, countL, argsX]
              split
              · simp at hi hj ⊢; omega
              · split
                · simp at hi1 hj2 ⊢; omega
                · simp
            | x :: y :: z :: l, _, _ => simp [printL, argsX]
def headS (k c r : Int) (a v l : Nat) (k' c' r' : Int) (a' v' l' : Nat) : Bool := decide (k = k' ∧ c = c' ∧ r = r' ∧ a = a' ∧ v = v' ∧ l = l')
mutual
def sameT : CT → CT → Bool
  | .mk k c r a v l, .mk k' c' r' a' v' bs => headS k c r a v l.length k' c' r' a' v' bs.length && sameL l bs
def sameL : List CT → List CT → Bool
  | x :: l, y :: bs => sameT x y && sameL l bs
  | _, _ => true
end
theorem sameL_hit : ∀ (l bs : List CT) (j : Nat) (h : j < l.length) (h' : j < bs.length), sameT l[j] bs[j] = false → sameL l bs = false
  | x :: l, y :: bs, 0, h, h', e => by
    have e' : sameT x y = false := e
    rw [sameL, e']; rfl
  | x :: l, y :: bs, j + 1, h, h', e => by
    rw [sameL, sameL_hit l bs j (by simpa using h) (by simpa using h') (by simpa using e)]
    simp
theorem sameL_all : ∀ (l bs : List CT), (∀ (j : Nat) (h : j < l.length) (h' : j < bs.length), sameT l[j] bs[j] = true) → sameL l bs = true
  | [], bs, _ => by rw [sameL]; intro x l y bs h; cases h
  | x :: l, [], _ => by rw [sameL]; intro x l y bs _ h; cases h
  | x :: l, y :: bs, h => by
    rw [sameL, show sameT x y = true from h 0 (by simp) (by simp), sameL_all l bs (fun j h1 h2 => h (j + 1) (by simpa using h1) (by simpa using h2))]
    rfl
def zeroT (k c r : Int) (a v : Nat) (args : List CT) : CT := if k = 1 then .mk 1 c r 0 v args else if k = 2 then .mk 2 0 0 a v args else if k = 3 then .mk 3 c 0 0 v args else .mk k 0 0 0 0 args
mutual
def cleanT : CT → Bool
  | .mk k c r a v args => sameT (zeroT k c r a v args) (.mk k c r a v args) && cleanL args
def cleanL : List CT → Bool
  | [] => true
  | t :: ts => cleanT t && cleanL ts
end
theorem cleanL_hit : ∀ (l : List CT) (j : Nat) (h : j < l.length), cleanT l[j] = false → cleanL l = false
  | x :: l, 0, h, e => by
    have e' : cleanT x = false := e
    rw [cleanL, e']; rfl
  | x :: l, j + 1, h, e => by
    rw [cleanL, cleanL_hit l j (by simpa using h) (by simpa using e)]
    simp
theorem cleanL_all : ∀ (l : List CT), (∀ (j : Nat) (h : j < l.length), cleanT l[j] = true) → cleanL l = true
  | [], _ => by rw [cleanL]
  | x :: l, h => by
    rw [cleanL, show cleanT x = true from h 0 (by simp), cleanL_all l (fun j h1 => h (j + 1) (by simpa using h1))]
    rfl
def wantN (k : Int) : Int := if k = 4 ∨ k = 5 then 2 else if k = 6 then 1 else 0
def headR (k c r cores : Int) (len : Nat) : Int :=
  if k < 1 ∨ 7 < k ∨ ¬ (len : Int) = wantN k ∨ (k = 1 ∧ (r < 0 ∨ 31 ≤ r)) then 1 else if (k = 1 ∨ k = 3) ∧ (c < 0 ∨ cores ≤ c) then 131 else 0
mutual
def rightT (cores : Int) : CT → Int
  | .mk k c r _ _ args => if headR k c r cores args.length = 0 then rightL cores args else headR k c r cores args.length
def rightL (cores : Int) : List CT → Int
  | [] => 0
  | t :: ts => if rightT cores t = 0 then rightL cores ts else rightT cores t
end
theorem rightL_append (cores : Int) : ∀ (a b : List CT), rightL cores (a ++ b) = if rightL cores a = 0 then rightL cores b else rightL cores a
  | [], b => by simp [rightL]
  | t :: a, b => by
    simp only [List.cons_append, rightL, rightL_append cores a b]
    by_cases h : rightT cores t = 0
    · simp [h]
    · simp [h]
theorem rightL_take (cores : Int) (l : List CT) (j : Nat) (hj : j < l.length) (h0 : rightL cores (l.take j) = 0) :
    rightL cores (l.take (j + 1)) = rightT cores l[j] ∧ (¬ rightT cores l[j] = 0 → rightL cores l = rightT cores l[j]) := by
  have e : rightL cores (l.take (j + 1)) = rightT cores l[j] := by
    rw [List.take_succ_eq_append_getElem hj, rightL_append, if_pos h0]
    simp only [rightL]
    split
    · rename_i h; exact h.symm
    · rfl
  refine ⟨e, fun h => ?_⟩
  have h2 := rightL_append cores (l.take (j + 1)) (l.drop (j + 1))
  rw [List.take_append_drop, e, if_neg h] at h2
  exact h2
theorem head_val (k c r cores : Int) (len : Nat) : headR k c r cores len = 0 ∨ headR k c r cores len = 1 ∨ headR k c r cores len = 131 := by
  unfold headR
  split
  · exact .inr (.inl rfl)
  · split
    · exact .inr (.inr rfl)
    · exact .inl rfl
def RightT (cores : Int) (t : CT) : Int := if 64 < countT t then 120 else rightT cores t
theorem head0 {k c r cores : Int} {len : Nat} (h : headR k c r cores len = 0) : (1 ≤ k ∧ k ≤ 7) ∧ (len : Int) = wantN k ∧ (k = 1 → 0 ≤ r ∧ r < 31) ∧ (k = 1 ∨ k = 3 → 0 ≤ c ∧ c < cores) := by
  unfold headR at h
  split at h
  · cases h
  · split at h
    · cases h
    · rename_i h1 h2
      refine ⟨by omega, by omega, fun e => by omega, fun e => by omega⟩
theorem right0 {k c r cores : Int} {a v : Nat} {args : List CT} (h : rightT cores (.mk k c r a v args) = 0) : headR k c r cores args.length = 0 ∧ ∀ t ∈ args, rightT cores t = 0 := by
  rw [rightT] at h
  split at h
  · rename_i h0
    refine ⟨h0, ?_⟩
    clear h0
    induction args with
    | nil => intro t ht; cases ht
    | cons x l ih =>
      rw [rightL] at h
      split at h
      · rename_i hx
        intro t ht
        rcases List.mem_cons.1 ht with rfl | h1
        · exact hx
        · exact ih h t h1
      · rename_i hx; exact absurd h hx
  · rename_i h0; exact absurd h h0
theorem sameT_refl : ∀ t : CT, sameT t t = true := by
  intro t
  refine CT.ind (P := fun t => sameT t t = true) ?_ t
  intro k c r a v args ih
  rw [sameT, show headS k c r a v args.length k c r a v args.length = true by unfold headS; simp, Bool.true_and]
  exact sameL_all args args (fun j h _ => ih _ (List.getElem_mem h))
end Go.Proofs.YtcaifejfkpmeeaaGreat
