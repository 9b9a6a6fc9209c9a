/- What is reached in steps: the plain law. -/
import Derived.Test.YtmiajpoclgdhbaaDoorRelThenW
namespace Go.Proofs.YtmiajpoclgdhbaaDoor
set_option linter.unusedVariables false

/-- R is the least relation that holds T and goes on, among the first n. -/
structure IsClos (n : Nat) (T R : Nat → Nat → Bool) : Prop where
  base : ∀ a b, a < n → b < n → T a b = true → R a b = true
  trans : ∀ a b c, a < n → b < n → c < n → R a b = true → R b c = true → R a c = true
  least : ∀ S : Nat → Nat → Prop, (∀ a b, a < n → b < n → T a b = true → S a b) → (∀ a b c, a < n → b < n → c < n → S a b → S b c → S a c) → ∀ a b, a < n → b < n → R a b = true → S a b
theorem IsClos.unique {n : Nat} {T R R' : Nat → Nat → Bool} (h : IsClos n T R) (h' : IsClos n T R') (a b : Nat) (ha : a < n) (hb : b < n) : R a b = R' a b := by
  rw [Bool.eq_iff_iff]
  exact ⟨h.least (fun a b => R' a b = true) h'.base h'.trans a b ha hb, h'.least (fun a b => R a b = true) h.base h.trans a b ha hb⟩
theorem IsClos.congr {n : Nat} {T T' R R' : Nat → Nat → Bool} (h : IsClos n T R) (hT : ∀ a b, a < n → b < n → T a b = T' a b) (hR : ∀ a b, a < n → b < n → R a b = R' a b) : IsClos n T' R' where
  base a b ha hb ht := by rw [← hR a b ha hb]; exact h.base a b ha hb (by rw [hT a b ha hb]; exact ht)
  trans a b c ha hb hc h1 h2 := by
    rw [← hR a c ha hc]
    exact h.trans a b c ha hb hc (by rw [hR a b ha hb]; exact h1) (by rw [hR b c hb hc]; exact h2)
  least S h1 h2 a b ha hb hr := h.least S (fun x y hx hy hxy => h1 x y hx hy (by rw [← hT x y hx hy]; exact hxy)) h2 a b ha hb (by rw [hR a b ha hb]; exact hr)
theorem IsClos.self {n : Nat} {T R : Nat → Nat → Bool} (h : IsClos n T R) : IsClos n R R where
  base a b _ _ h := h
  trans := h.trans
  least S h1 _ a b ha hb hr := h1 a b ha hb hr
/-- Whatever leads back to itself has one ahead of it that does. -/
theorem IsClos.back {n : Nat} {T R : Nat → Nat → Bool} (h : IsClos n T R) {x : Nat} (hx : x < n) (hr : R x x = true) : ∃ y, y < n ∧ T y x = true ∧ R y y = true := by
  obtain ⟨y, hy, hxy, ht⟩ := h.least (fun a b => ∃ y, y < n ∧ (a = y ∨ R a y = true) ∧ T y b = true)
    (fun a b ha hb hab => ⟨a, ha, .inl rfl, hab⟩)
    (fun a b c ha hb hc => by
      rintro ⟨y, hy, hay, hyb⟩ ⟨z, hz, hbz, hzc⟩
      refine ⟨z, hz, .inr ?_, hzc⟩
      have hab : R a b = true := by
        rcases hay with rfl | hay
        · exact h.base _ _ ha hb hyb
        · exact h.trans a y b ha hy hb hay (h.base _ _ hy hb hyb)
      rcases hbz with rfl | hbz
      · exact hab
      · exact h.trans a b z ha hb hz hab hbz) x x hx hx hr
  refine ⟨y, hy, ht, ?_⟩
  rcases hxy with rfl | hxy
  · exact hr
  · exact h.trans y x y hy hx hy (h.base _ _ hy hx ht) hxy

/-- Through the things below k. -/
def warT (T : Nat → Nat → Bool) : Nat → Nat → Nat → Bool
  | 0 => T
  | k + 1 => fun a b => warT T k a b || (warT T k a k && warT T k k b)
theorem warT_through (T : Nat → Nat → Bool) : ∀ k x, x < k → ∀ a c, warT T k a x = true → warT T k x c = true → warT T k a c = true := by
  intro k
  induction k with
  | zero => intro x hx; omega
  | succ k ih =>
    intro x hx a c h1 h2
    simp only [warT, Bool.or_eq_true, Bool.and_eq_true] at h1 h2 ⊢
    by_cases e : x = k
    · subst e
      have g1 : warT T x a x = true := by rcases h1 with h | h; exact h; exact h.1
      have g2 : warT T x x c = true := by rcases h2 with h | h; exact h; exact h.2
      exact .inr ⟨g1, g2⟩
    · have hx : x < k := by omega
      rcases h1 with h1 | ⟨h1, h1'⟩ <;> rcases h2 with h2 | ⟨h2, h2'⟩
      · exact .inl (ih x hx a c h1 h2)
      · exact .inr ⟨ih x hx a k h1 h2, h2'⟩
      · exact .inr ⟨h1, ih x hx k c h1' h2⟩
      · exact .inr ⟨h1, h2'⟩
theorem warT_base (T : Nat → Nat → Bool) (a b : Nat) (h : T a b = true) : ∀ k, warT T k a b = true := by
  intro k
  induction k with
  | zero => exact h
  | succ k ih => simp only [warT, ih, Bool.true_or]
theorem warT_least (n : Nat) (T : Nat → Nat → Bool) (S : Nat → Nat → Prop) (h1 : ∀ a b, a < n → b < n → T a b = true → S a b) (h2 : ∀ a b c, a < n → b < n → c < n → S a b → S b c → S a c) :
    ∀ k, k ≤ n → ∀ a b, a < n → b < n → warT T k a b = true → S a b := by
  intro k
  induction k with
  | zero => intro _ a b ha hb h; exact h1 a b ha hb h
  | succ k ih =>
    intro hk a b ha hb h
    simp only [warT, Bool.or_eq_true, Bool.and_eq_true] at h
    rcases h with h | ⟨h, h'⟩
    · exact ih (by omega) a b ha hb h
    · exact h2 a k b ha (by omega) hb (ih (by omega) a k ha (by omega) h) (ih (by omega) k b (by omega) hb h')
theorem war_clos (n : Nat) (T : Nat → Nat → Bool) : IsClos n T (warT T n) where
  base a b _ _ h := warT_base T a b h n
  trans a b c _ hb _ h1 h2 := warT_through T n b hb a c h1 h2
  least S h1 h2 a b ha hb h := warT_least n T S h1 h2 n (Nat.le_refl _) a b ha hb h

theorem hasB_inner (n k : Nat) (ws : List Nat) (hl : ws.length = 2 * n) (hk : k < n) (hn : n ≤ 128) (x y : Nat) (hx : x < n) (hy : y < 128) :
    hasB (innerW n k ws) x y = (hasB ws x y || (hasB ws x k && hasB ws k y)) := by
  have H : ∀ m, m ≤ n → ∀ x, x < n → ∀ y, y < 128 → hasB ((List.range m).foldl (stepI k (ws.getD (k * 2) 0) (ws.getD (k * 2 + 1) 0)) ws) x y = if x < m then (hasB ws x y || (hasB ws x k && hasB ws k y)) else hasB ws x y := by
    intro m
    induction m with
    | zero => intro _ x _ y _; simp
    | succ m ih =>
      intro hm x hx y hy
      rw [fold_succ]
      have hlen : ((List.range m).foldl (stepI k (ws.getD (k * 2) 0) (ws.getD (k * 2 + 1) 0)) ws).length = 2 * n := by rw [innerTo_len]; exact hl
      have h1 := ih (by omega) x hx y hy
      have h2 := ih (by omega) m (by omega) k (by omega)
      rw [if_neg (by omega)] at h2
      generalize (List.range m).foldl (stepI k (ws.getD (k * 2) 0) (ws.getD (k * 2 + 1) 0)) ws = us at *
      unfold stepI
      by_cases hb : hasB us m k = true
      · rw [if_pos hb, hasB_join n us ws m k x y hlen (by omega) hy, h1]
        rw [hb] at h2
        by_cases e : x = m
        · subst e
          rw [if_neg (by omega), if_pos (by omega), decide_eq_true rfl, ← h2, Bool.true_and]
        · rw [decide_eq_false e, Bool.false_and, Bool.or_false]
          by_cases h3 : x < m
          · rw [if_pos h3, if_pos (by omega)]
          · rw [if_neg h3, if_neg (by omega)]
      · rw [if_neg hb, h1]
        have hb' : hasB ws m k = false := by rw [← h2]; simpa using hb
        by_cases e : x = m
        · subst e
          rw [if_neg (by omega), if_pos (by omega), hb']; simp
        · by_cases h3 : x < m
          · rw [if_pos h3, if_pos (by omega)]
          · rw [if_neg h3, if_neg (by omega)]
  unfold innerW
  rw [H n (Nat.le_refl _) x hx y hy, if_pos hx]
theorem hasB_clos (n : Nat) (ws : List Nat) (hl : ws.length = 2 * n) (hn : n ≤ 128) : ∀ m, m ≤ n → ∀ x y, x < n → y < 128 → hasB ((List.range m).foldl (fun ws k => innerW n k ws) ws) x y = warT (hasB ws) m x y := by
  intro m
  induction m with
  | zero => intro _ x y _ _; rfl
  | succ m ih =>
    intro hm x y hx hy
    have hlen := closTo_len n m ws
    rw [fold_succ, hasB_inner n m _ (by rw [hlen]; exact hl) (by omega) hn x y hx hy, ih (by omega) x y hx hy, ih (by omega) x m hx (by omega), ih (by omega) m y (by omega) hy]
    rfl
theorem warT_no (T : Nat → Nat → Bool) (n y : Nat) (h : ∀ a, a < n → T a y = false) : ∀ k, k ≤ n → ∀ a, a < n → warT T k a y = false := by
  intro k
  induction k with
  | zero => intro _ a ha; exact h a ha
  | succ k ih => intro hk a ha; simp only [warT, ih (by omega) a ha, ih (by omega) k (by omega), Bool.and_false, Bool.or_false]
theorem warT_congr {T U : Nat → Nat → Bool} {n : Nat} (h : ∀ a b, a < n → b < n → T a b = U a b) : ∀ k, k ≤ n → ∀ a b, a < n → b < n → warT T k a b = warT U k a b := by
  intro k
  induction k with
  | zero => intro _ a b ha hb; exact h a b ha hb
  | succ k ih => intro hk a b ha hb; simp only [warT, ih (by omega) a b ha hb, ih (by omega) a k ha (by omega), ih (by omega) k b (by omega) hb]
theorem clos_says {n : Nat} {ws : List Nat} {T R : Nat → Nat → Bool} (hn : n ≤ 128) (hl : ws.length = 2 * n) (h : Says n ws T) (hR : IsClos n T R) : Says n (closW n ws) R := by
  refine ⟨fun a ha b hb => ?_, fun a ha b hb hh => ?_⟩
  · have e := hasB_clos n ws hl hn n (Nat.le_refl _) a b ha (by omega)
    have e2 := warT_congr (fun a b ha hb => h.1 a ha b hb) n (Nat.le_refl _) a b ha hb
    exact e.trans (e2.trans ((war_clos n T).unique hR a b ha hb))
  · have e := hasB_clos n ws hl hn n (Nat.le_refl _) a b ha hb
    by_cases hbn : b < n
    · exact hbn
    · have e3 := warT_no (hasB ws) n b (fun x hx => by
        cases q : hasB ws x b
        · rfl
        · exact absurd (h.2 x hx b hb q) hbn) n (Nat.le_refl _) a ha
      rw [show closW n ws = (List.range n).foldl (fun ws k => innerW n k ws) ws from rfl, e, e3] at hh
      cases hh
theorem closW_len (n : Nat) (ws : List Nat) : (closW n ws).length = ws.length := closTo_len n n ws
/-- Words alike, bit by bit. -/
theorem words_eq {n : Nat} {ws ws2 : List Nat} (h1 : ws.length = 2 * n) (h2 : ws2.length = 2 * n) (l1 : ∀ j, ws.getD j 0 < 18446744073709551616) (l2 : ∀ j, ws2.getD j 0 < 18446744073709551616)
    (h : ∀ a, a < n → ∀ b, b < 128 → hasB ws a b = hasB ws2 a b) : ws = ws2 := by
  apply List.ext_getElem (by omega)
  intro j hj hj2
  have e1 : ws[j] = ws.getD j 0 := by simp [List.getD_eq_getElem?_getD, hj]
  have e2 : ws2[j] = ws2.getD j 0 := by simp [List.getD_eq_getElem?_getD, hj2]
  rw [e1, e2]
  apply Nat.eq_of_testBit_eq
  intro i
  by_cases hi : i < 64
  · have := h (j / 2) (by omega) (64 * (j % 2) + i) (by omega)
    unfold hasB at this
    rw [show 2 * (j / 2) + (64 * (j % 2) + i) / 64 = j by omega, show (64 * (j % 2) + i) % 64 = i by omega] at this
    exact this
  · rw [Nat.testBit_lt_two_pow (Nat.lt_of_lt_of_le (l1 j) (show 18446744073709551616 ≤ 2 ^ i from Nat.pow_le_pow_right (n := 2) (by decide) (show 64 ≤ i by omega))),
      Nat.testBit_lt_two_pow (Nat.lt_of_lt_of_le (l2 j) (show 18446744073709551616 ≤ 2 ^ i from Nat.pow_le_pow_right (n := 2) (by decide) (show 64 ≤ i by omega)))]
theorem says_eq {n : Nat} {ws ws2 : List Nat} {T : Nat → Nat → Bool} (hn : n ≤ 128) (h1 : ws.length = 2 * n) (h2 : ws2.length = 2 * n) (l1 : ∀ j, ws.getD j 0 < 18446744073709551616) (l2 : ∀ j, ws2.getD j 0 < 18446744073709551616)
    (s1 : Says n ws T) (s2 : Says n ws2 T) : ws = ws2 := by
  refine words_eq h1 h2 l1 l2 fun a ha b hb => ?_
  by_cases hbn : b < n
  · rw [s1.1 a ha b hbn, s2.1 a ha b hbn]
  · rw [Bool.eq_iff_iff]
    exact ⟨fun h => absurd (s1.2 a ha b hb h) hbn, fun h => absurd (s2.2 a ha b hb h) hbn⟩

/-! How many are not in a relation. -/
def pairsL (n : Nat) : List (Nat × Nat) := (List.range n).flatMap fun a => (List.range n).map fun b => (a, b)
theorem pairsL_mem {n a b : Nat} : (a, b) ∈ pairsL n ↔ a < n ∧ b < n := by
  unfold pairsL
  rw [List.mem_flatMap]
  constructor
  · rintro ⟨x, hx, h⟩
    obtain ⟨y, hy, e⟩ := List.mem_map.1 h
    injection e with e1 e2
    subst e1 e2
    exact ⟨List.mem_range.1 hx, List.mem_range.1 hy⟩
  · rintro ⟨ha, hb⟩
    exact ⟨a, List.mem_range.2 ha, List.mem_map.2 ⟨b, List.mem_range.2 hb, rfl⟩⟩
theorem countP_lt {α : Type} {p q : α → Bool} : ∀ {l : List α}, (∀ x ∈ l, p x = true → q x = true) → (∃ x ∈ l, q x = true ∧ p x = false) → l.countP p < l.countP q := by
  intro l
  induction l with
  | nil => rintro _ ⟨x, hx, _⟩; cases hx
  | cons y l ih =>
    rintro h ⟨x, hx, hq, hp⟩
    have hle : l.countP p ≤ l.countP q := List.countP_mono_left fun z hz hzp => h z (by simp [hz]) hzp
    rw [List.countP_cons, List.countP_cons]
    rcases List.mem_cons.1 hx with rfl | hx
    · rw [hq, hp]; simp; omega
    · have := ih (fun z hz => h z (by simp [hz])) ⟨x, hx, hq, hp⟩
      have hy := h y (by simp)
      cases hpy : p y
      · simp; split <;> omega
      · rw [hy hpy]; simp; omega
def lacks (n : Nat) (U : Nat → Nat → Bool) : Nat := (pairsL n).countP fun p => !U p.1 p.2
theorem lacks_lt {n : Nat} {U V : Nat → Nat → Bool} (h : ∀ a b, a < n → b < n → U a b = true → V a b = true) {a b : Nat} (ha : a < n) (hb : b < n) (hV : V a b = true) (hU : U a b = false) : lacks n V < lacks n U := by
  refine countP_lt (fun p hp => ?_) ⟨(a, b), pairsL_mem.2 ⟨ha, hb⟩, ?_, ?_⟩
  · obtain ⟨x, y⟩ := p
    obtain ⟨hx, hy⟩ := pairsL_mem.1 hp
    cases hu : U x y
    · simp
    · have := h x y hx hy hu; simp [this]
  · simp [hU]
  · simp [hV]
def tUnion (A B : Nat → Nat → Bool) : Nat → Nat → Bool := fun a b => A a b || B a b
def tMinus (A B : Nat → Nat → Bool) : Nat → Nat → Bool := fun a b => A a b && !B a b
def sameT (n : Nat) (A B : Nat → Nat → Bool) : Bool := (List.range n).all fun a => (List.range n).all fun b => A a b == B a b
theorem sameT_iff {n : Nat} {A B : Nat → Nat → Bool} : sameT n A B = true ↔ ∀ a, a < n → ∀ b, b < n → A a b = B a b := by
  unfold sameT
  simp only [List.all_eq_true, List.mem_range, beq_iff_eq]
theorem sameT_false {n : Nat} {A B : Nat → Nat → Bool} {a b : Nat} (ha : a < n) (hb : b < n) (h : A a b ≠ B a b) : sameT n A B = false := by
  cases e : sameT n A B
  · rfl
  · exact absurd (sameT_iff.1 e a ha b hb) h
/-- A step of the reference's closure. -/
def growT (n : Nat) (U : Nat → Nat → Bool) : Nat → Nat → Bool := tUnion U (thenT n U U)
theorem grow_up (n : Nat) (U : Nat → Nat → Bool) (a b : Nat) (h : U a b = true) : growT n U a b = true := by unfold growT tUnion; rw [h]; rfl
theorem grow_lt {n : Nat} {U : Nat → Nat → Bool} (h : sameT n (growT n U) U = false) : lacks n (growT n U) < lacks n U := by
  have : ¬ ∀ a, a < n → ∀ b, b < n → growT n U a b = U a b := fun h2 => by rw [sameT_iff.2 h2] at h; cases h
  obtain ⟨a, ha, b, hb, hne⟩ : ∃ a, a < n ∧ ∃ b, b < n ∧ growT n U a b ≠ U a b := by
    apply Classical.byContradiction
    intro hn
    exact this fun a ha b hb => Classical.byContradiction fun hne => hn ⟨a, ha, b, hb, hne⟩
  have hU : U a b = false := by
    cases e : U a b
    · rfl
    · rw [grow_up n U a b e, e] at hne; exact absurd rfl hne
  have hV : growT n U a b = true := by
    cases e : growT n U a b
    · rw [e, hU] at hne; exact absurd rfl hne
    · rfl
  exact lacks_lt (fun a b _ _ h => grow_up n U a b h) ha hb hV hU
/-- On the way: all of T, and nothing that the closure does not hold. -/
def onWay (n : Nat) (T U : Nat → Nat → Bool) : Prop :=
  (∀ a b, a < n → b < n → T a b = true → U a b = true) ∧ ∀ a b, a < n → b < n → U a b = true → warT T n a b = true
theorem onWay_grow {n : Nat} {T U : Nat → Nat → Bool} (h : onWay n T U) : onWay n T (growT n U) := by
  refine ⟨fun a b ha hb ht => grow_up n U a b (h.1 a b ha hb ht), fun a b ha hb hg => ?_⟩
  unfold growT tUnion thenT at hg
  rw [Bool.or_eq_true, List.any_eq_true] at hg
  rcases hg with hg | ⟨k, hk, hg⟩
  · exact h.2 a b ha hb hg
  · have hk := List.mem_range.1 hk
    rw [Bool.and_eq_true] at hg
    exact (war_clos n T).trans a k b ha hk hb (h.2 a k ha hk hg.1) (h.2 k b hk hb hg.2)
theorem onWay_end {n : Nat} {T U : Nat → Nat → Bool} (h : onWay n T U) (hs : sameT n (growT n U) U = true) : IsClos n T U where
  base := h.1
  trans a b c ha hb hc h1 h2 := by
    rw [← sameT_iff.1 hs a ha c hc]
    unfold growT tUnion thenT
    rw [Bool.or_eq_true, List.any_eq_true]
    exact .inr ⟨b, List.mem_range.2 hb, by rw [h1, h2]; rfl⟩
  least S h1 h2 a b ha hb hr := (war_clos n T).least S h1 h2 a b ha hb (h.2 a b ha hb hr)
end Go.Proofs.YtmiajpoclgdhbaaDoor
