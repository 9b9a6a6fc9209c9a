/- Steps to a thing, found level by level: the plain law. -/
import Derived.Test.YtmiajpoclgdhbaaDoorRelOrdP
namespace Go.Proofs.YtmiajpoclgdhbaaDoor
open Go.RowKit
set_option linter.unusedVariables false
set_option linter.unusedSimpArgs false

/-- On level d, as far as the pairs Pd. -/
structure BF (n st : Nat) (T : Nat → Nat → Bool) (d : Nat) (far : List Int) (edge next : List Nat) (Pd : Nat → Nat → Prop) : Prop where
  len : far.length = n
  st0 : far.getD st 0 = 0
  rng : ∀ v, v < n → far.getD v 0 = -1 ∨ 0 ≤ far.getD v 0 ∧ far.getD v 0 ≤ (d : Int) + 1
  zero : ∀ v, v < n → far.getD v 0 = 0 → v = st
  step : ∀ v, v < n → 0 < far.getD v 0 → ∃ b, b < n ∧ T v b = true ∧ far.getD b 0 = far.getD v 0 - 1
  old : ∀ v b, v < n → b < n → T v b = true → 0 ≤ far.getD b 0 → far.getD b 0 < (d : Int) → 0 ≤ far.getD v 0 ∧ far.getD v 0 ≤ far.getD b 0 + 1
  edg : ∀ v, v ∈ edge ↔ v < n ∧ far.getD v 0 = (d : Int)
  nxt : ∀ v, v ∈ next ↔ v < n ∧ far.getD v 0 = (d : Int) + 1
  done : ∀ v b, v < n → b < n → T v b = true → far.getD b 0 = (d : Int) → Pd v b → 0 ≤ far.getD v 0
/-- How many steps each thing is from st; -1: it does not lead there. -/
structure Dist (n st : Nat) (T : Nat → Nat → Bool) (far : List Int) : Prop where
  len : far.length = n
  st0 : far.getD st 0 = 0
  rng : ∀ v, v < n → -1 ≤ far.getD v 0
  zero : ∀ v, v < n → far.getD v 0 = 0 → v = st
  step : ∀ v, v < n → 0 < far.getD v 0 → ∃ b, b < n ∧ T v b = true ∧ far.getD b 0 = far.getD v 0 - 1
  pre : ∀ v b, v < n → b < n → T v b = true → 0 ≤ far.getD b 0 → 0 ≤ far.getD v 0 ∧ far.getD v 0 ≤ far.getD b 0 + 1
theorem BF.more {n st d : Nat} {T : Nat → Nat → Bool} {far : List Int} {edge next : List Nat} {P Q : Nat → Nat → Prop} (h : BF n st T d far edge next P)
    (hq : ∀ v b, v < n → b < n → T v b = true → far.getD b 0 = (d : Int) → Q v b → P v b ∨ 0 ≤ far.getD v 0) : BF n st T d far edge next Q :=
  ⟨h.len, h.st0, h.rng, h.zero, h.step, h.old, h.edg, h.nxt, fun v b hv hb ht hd hp => (hq v b hv hb ht hd hp).elim (h.done v b hv hb ht hd) id⟩
theorem BF.found {n st d : Nat} {T : Nat → Nat → Bool} {far : List Int} {edge next : List Nat} {P : Nat → Nat → Prop} (h : BF n st T d far edge next P) (hst : st < n)
    {a x : Nat} (ha : a ∈ edge) (hx : x < n) (ht : T x a = true) (hn : far.getD x 0 < 0) : BF n st T d (far.set x ((d : Int) + 1)) edge (next ++ [x]) P := by
  obtain ⟨han, had⟩ := (h.edg a).1 ha
  have hl := h.len
  have hs : ∀ v, v ≠ x → (far.set x ((d : Int) + 1)).getD v 0 = far.getD v 0 := fun v hv => by rw [getD_set, if_neg (by omega)]
  have hx' : (far.set x ((d : Int) + 1)).getD x 0 = (d : Int) + 1 := by rw [getD_set, if_pos ⟨rfl, by omega⟩]
  have hne : ∀ v, 0 ≤ far.getD v 0 → v ≠ x := fun v hv e => by subst e; omega
  have hax : a ≠ x := hne a (by omega)
  refine ⟨by simp; exact hl, by rw [hs st (hne st (by have := h.st0; omega))]; exact h.st0, fun v hv => ?_, fun v hv h0 => ?_, fun v hv h0 => ?_, fun v b hv hb htv h0 h1 => ?_, fun v => ?_, fun v => ?_, fun v b hv hb htv h0 hp => ?_⟩
  · by_cases e : v = x
    · subst e; rw [hx']; exact .inr ⟨by omega, by omega⟩
    · rw [hs v e]; exact h.rng v hv
  · by_cases e : v = x
    · subst e; rw [hx'] at h0; omega
    · rw [hs v e] at h0; exact h.zero v hv h0
  · by_cases e : v = x
    · subst e; exact ⟨a, han, ht, by rw [hs a hax, hx']; omega⟩
    · rw [hs v e] at h0 ⊢
      obtain ⟨b, hb, h1, h2⟩ := h.step v hv h0
      exact ⟨b, hb, h1, by rw [hs b (hne b (by omega))]; exact h2⟩
  · by_cases e : b = x
    · subst e; rw [hx'] at h1; omega
    · rw [hs b e] at h0 h1 ⊢
      obtain ⟨h2, h3⟩ := h.old v b hv hb htv h0 h1
      rw [hs v (hne v h2)]; exact ⟨h2, h3⟩
  · rw [h.edg v]
    by_cases e : v = x
    · subst e; rw [hx']; constructor <;> (rintro ⟨_, h1⟩; omega)
    · rw [hs v e]
  · rw [List.mem_append, h.nxt v, List.mem_singleton]
    by_cases e : v = x
    · subst e; rw [hx']; exact ⟨fun _ => ⟨hx, rfl⟩, fun _ => .inr rfl⟩
    · rw [hs v e]; exact ⟨fun h => h.resolve_right e, .inl⟩
  · by_cases e : v = x
    · subst e; rw [hx']; omega
    · rw [hs v e]
      by_cases e2 : b = x
      · subst e2; rw [hx'] at h0; omega
      · rw [hs b e2] at h0; exact h.done v b hv hb htv h0 hp
theorem BF.level {n st d : Nat} {T : Nat → Nat → Bool} {far : List Int} {edge next : List Nat} (h : BF n st T d far edge next fun _ b => b ∈ edge) : BF n st T (d + 1) far next [] fun _ _ => False := by
  refine ⟨h.len, h.st0, fun v hv => ?_, h.zero, h.step, fun v b hv hb ht h0 h1 => ?_, fun v => ?_, fun v => ?_, fun v b _ _ _ _ hp => hp.elim⟩
  · rcases h.rng v hv with h | h
    · exact .inl h
    · exact .inr ⟨h.1, by omega⟩
  · by_cases e : far.getD b 0 < (d : Int)
    · exact h.old v b hv hb ht h0 e
    · have hd : far.getD b 0 = (d : Int) := by omega
      have := h.done v b hv hb ht hd ((h.edg b).2 ⟨hb, hd⟩)
      rcases h.rng v hv with h2 | h2
      · omega
      · exact ⟨this, by omega⟩
  · rw [h.nxt v]; push_cast; exact Iff.rfl
  · constructor
    · intro h; cases h
    · rintro ⟨hv, h1⟩
      rcases h.rng v hv with h2 | h2 <;> omega
theorem BF.final {n st d : Nat} {T : Nat → Nat → Bool} {far : List Int} {P : Nat → Nat → Prop} (h : BF n st T d far [] [] P) : Dist n st T far := by
  refine ⟨h.len, h.st0, fun v hv => ?_, h.zero, h.step, fun v b hv hb ht h0 => ?_⟩
  · rcases h.rng v hv with h2 | h2 <;> omega
  · refine h.old v b hv hb ht h0 ?_
    rcases h.rng b hb with h2 | h2
    · omega
    · have e1 : far.getD b 0 ≠ (d : Int) := fun e => by have := (h.edg b).2 ⟨hb, e⟩; cases this
      have e2 : far.getD b 0 ≠ (d : Int) + 1 := fun e => by have := (h.nxt b).2 ⟨hb, e⟩; cases this
      omega
theorem BF.init {n st : Nat} {T : Nat → Nat → Bool} {far : List Int} (hl : far.length = n) (hst : st < n) (h : ∀ v, v < n → far.getD v 0 = -1) : BF n st T 0 (far.set st 0) [st] [] fun _ _ => False := by
  have hs : ∀ v, v < n → (far.set st 0).getD v 0 = if v = st then 0 else -1 := fun v hv => by
    rw [getD_set]
    by_cases e : v = st
    · rw [if_pos ⟨e.symm, by omega⟩, if_pos e]
    · rw [if_neg (by omega), if_neg e]; exact h v hv
  refine ⟨by simp; exact hl, by rw [hs st hst, if_pos rfl], fun v hv => ?_, fun v hv h0 => ?_, fun v hv h0 => ?_, fun v b hv hb ht h0 h1 => ?_, fun v => ?_, fun v => ?_, fun v b _ _ _ _ hp => hp.elim⟩
  · rw [hs v hv]; split
    · exact .inr ⟨by omega, by omega⟩
    · exact .inl rfl
  · rw [hs v hv] at h0
    by_cases e : v = st
    · exact e
    · rw [if_neg e] at h0; omega
  · rw [hs v hv] at h0; split at h0 <;> omega
  · rw [hs b hb] at h0 h1; split at h0 <;> omega
  · rw [List.mem_singleton]
    constructor
    · rintro rfl; exact ⟨hst, by rw [hs v hst, if_pos rfl]; rfl⟩
    · rintro ⟨hv, h1⟩
      rw [hs v hv] at h1
      by_cases e : v = st
      · exact e
      · rw [if_neg e] at h1; omega
  · constructor
    · intro h; cases h
    · rintro ⟨hv, h1⟩
      rw [hs v hv] at h1
      split at h1 <;> omega
/-- How many are not found yet. -/
def negs (far : List Int) : Nat := far.countP fun x => decide (x < 0)
theorem negs_set {far : List Int} {x : Nat} {y : Int} (hx : x < far.length) (hn : far.getD x 0 < 0) (hy : 0 ≤ y) : negs (far.set x y) + 1 = negs far := by
  unfold negs
  have e : far[x] < 0 := by simpa [List.getD_eq_getElem?_getD, hx] using hn
  have hm : 0 < far.countP fun x => decide (x < 0) := List.countP_pos_iff.2 ⟨far[x], List.getElem_mem hx, by simpa using e⟩
  rw [List.countP_set hx]
  simp [e, show ¬ y < 0 by omega]
  omega
theorem negs_le (far : List Int) : negs far ≤ far.length := List.countP_le_length
theorem Dist.le {n st : Nat} {T : Nat → Nat → Bool} {far far2 : List Int} (h : Dist n st T far) (h2 : Dist n st T far2) : ∀ (m : Nat) v, v < n → far2.getD v 0 = (m : Int) → 0 ≤ far.getD v 0 ∧ far.getD v 0 ≤ (m : Int) := by
  intro m
  induction m with
  | zero =>
    intro v hv e
    have := h2.zero v hv (by omega)
    subst this
    have := h.st0
    omega
  | succ m ih =>
    intro v hv e
    obtain ⟨b, hb, ht, hd⟩ := h2.step v hv (by omega)
    obtain ⟨h3, h4⟩ := ih b hb (by omega)
    obtain ⟨h5, h6⟩ := h.pre v b hv hb ht h3
    omega
theorem Dist.eq {n st : Nat} {T : Nat → Nat → Bool} {far far2 : List Int} (h : Dist n st T far) (h2 : Dist n st T far2) (v : Nat) (hv : v < n) : far.getD v 0 = far2.getD v 0 := by
  have a1 := h.rng v hv
  have a2 := h2.rng v hv
  by_cases e : 0 ≤ far2.getD v 0
  · have b1 := h.le h2 (far2.getD v 0).toNat v hv (by omega)
    have b2 := h2.le h (far.getD v 0).toNat v hv (by omega)
    omega
  · by_cases e2 : 0 ≤ far.getD v 0
    · have b2 := h2.le h (far.getD v 0).toNat v hv (by omega)
      omega
    · omega
/-- What leads to st in steps has a number. -/
theorem Dist.reach {n st : Nat} {T R : Nat → Nat → Bool} {far : List Int} (h : Dist n st T far) (hR : IsClos n T R) (hst : st < n) {v : Nat} (hv : v < n) (hr : R v st = true) : 0 ≤ far.getD v 0 :=
  hR.least (fun a b => 0 ≤ far.getD b 0 → 0 ≤ far.getD a 0) (fun a b ha hb ht h0 => (h.pre a b ha hb ht h0).1) (fun a b c _ _ _ h1 h2 h3 => h1 (h2 h3)) v st hv hst hr (by have := h.st0; omega)
/-- A first step on a way from st back to st. -/
theorem first_step {n st : Nat} {T R : Nat → Nat → Bool} (hR : IsClos n T R) (hst : st < n) (hss : R st st = true) : ∃ b, b < n ∧ T st b = true ∧ (b = st ∨ R b st = true) :=
  hR.least (fun a c => ∃ b, b < n ∧ T a b = true ∧ (b = c ∨ R b c = true)) (fun a b ha hb ht => ⟨b, hb, ht, .inl rfl⟩)
    (fun a b c ha hb hc => by
      rintro ⟨x, hx, hax, hxb⟩ ⟨y, hy, hby, hyc⟩
      refine ⟨x, hx, hax, .inr ?_⟩
      have hbc : R b c = true := by
        rcases hyc with rfl | hyc
        · exact hR.base _ _ hb hy hby
        · exact hR.trans b y c hb hy hc (hR.base _ _ hb hy hby) hyc
      rcases hxb with rfl | hxb
      · exact hbc
      · exact hR.trans x b c hx hb hc hxb hbc) st st hst hst hss
theorem nodup_le {l : List Nat} : ∀ {n : Nat}, l.Nodup → (∀ x ∈ l, x < n) → l.length ≤ n := by
  intro n
  induction n generalizing l with
  | zero =>
    intro _ h
    cases l with
    | nil => simp
    | cons x l => exact absurd (h x (by simp)) (by omega)
  | succ n ih =>
    intro hn h
    by_cases hm : n ∈ l
    · have h1 := List.length_erase_of_mem hm
      have h2 := ih (l := l.erase n) (hn.erase n) (fun x hx => by
        have hx2 := (List.Nodup.mem_erase_iff hn).1 hx
        have := h x hx2.2
        have := hx2.1
        omega)
      omega
    · have := ih hn (fun x hx => by
        have := h x hx
        have : x ≠ n := fun e => hm (e ▸ hx)
        omega)
      omega
end Go.Proofs.YtmiajpoclgdhbaaDoor
