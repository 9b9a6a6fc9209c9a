/- The two orders agree; there is one just where nothing leads back to itself. -/
import Derived.Test.YtmiajpoclgdhbaaDoorRelTOrd
import Derived.Test.YtmiajpoclgdhbaaDoorRelPairs
namespace Go.Proofs.YtmiajpoclgdhbaaDoor
open Go.RowKit
set_option linter.unusedVariables false
set_option linter.unusedSimpArgs false

/-- How many things, not laid yet, lead to this one. -/
def waits (T : Nat → Nat → Bool) (n : Nat) (dn : List Bool) (i : Nat) : Nat := (List.range n).countP fun k => !dn.getD k false && T k i
theorem waits_free {T : Nat → Nat → Bool} {n : Nat} {dn : List Bool} {i : Nat} : waits T n dn i = 0 ↔ ((List.range n).all fun k => dn.getD k false || !T k i) = true := by
  unfold waits
  rw [List.countP_eq_zero, List.all_eq_true]
  constructor
  · intro h k hk
    have := h k hk
    cases hd : dn.getD k false <;> cases ht : T k i <;> simp_all
  · intro h k hk
    have := h k hk
    cases hd : dn.getD k false <;> cases ht : T k i <;> simp_all
theorem countP_one {p q : Nat → Bool} {n x : Nat} (hx : x < n) (hp : p x = false) (hq : q x = true) (h : ∀ k, k ≠ x → p k = q k) : (List.range n).countP q = (List.range n).countP p + 1 := by
  induction n with
  | zero => omega
  | succ n ih =>
    rw [List.range_succ, List.countP_append, List.countP_append]
    by_cases e : x = n
    · subst e
      have : (List.range x).countP q = (List.range x).countP p := by
        apply List.countP_congr
        intro k hk
        have := List.mem_range.1 hk
        rw [h k (by omega)]
      rw [this]; simp [hp, hq]
    · have := ih (by omega)
      rw [this]
      simp only [List.countP_cons, List.countP_nil]
      rw [h n (fun e2 => e e2.symm)]
      omega
theorem waits_done {T : Nat → Nat → Bool} {n : Nat} {dn : List Bool} {i b : Nat} (hi : i < n) (hl : dn.length = n) (hd : dn.getD i false = false) : waits T n dn b = waits T n (dn.set i true) b + if T i b then 1 else 0 := by
  unfold waits
  by_cases ht : T i b = true
  · rw [if_pos ht]
    refine countP_one hi ?_ ?_ ?_
    · rw [getD_set, if_pos ⟨rfl, by omega⟩]; rfl
    · rw [hd, ht]; rfl
    · intro k hk
      rw [getD_set, if_neg (by omega)]
  · rw [if_neg ht, Nat.add_zero]
    have ht : T i b = false := by simpa using ht
    apply List.countP_congr
    intro k hk
    by_cases e : k = i
    · subst e; rw [ht]; simp
    · rw [getD_set, if_neg (by omega)]
theorem bump_get (d : Int) : ∀ (l : List Nat) (ah : List Int) (b : Nat), b < ah.length → l.Nodup → (bump d ah l).getD b 0 = ah.getD b 0 + if b ∈ l then d else 0 := by
  intro l
  induction l with
  | nil => intro ah b hb _; simp [bump]
  | cons x l ih =>
    intro ah b hb hn
    have hnd := List.nodup_cons.1 hn
    have e : bump d ah (x :: l) = bump d (ah.set x (ah.getD x 0 + d)) l := rfl
    rw [e, ih _ b (by simp; exact hb) hnd.2, getD_set]
    by_cases h : x = b
    · subst h
      rw [if_pos ⟨rfl, hb⟩, if_neg hnd.1, if_pos (by simp)]; omega
    · rw [if_neg (by omega)]
      by_cases h2 : b ∈ l
      · rw [if_pos h2, if_pos (by simp [h2])]
      · rw [if_neg h2, if_neg (by simp [h2]; omega)]
theorem rowOf_says {n : Nat} {ws : List Nat} {T : Nat → Nat → Bool} (hn : n ≤ 128) (h : Says n ws T) (a : Nat) (ha : a < n) : rowOf ws a = (List.range n).filter (T a) := by
  rw [rowOf_filter]; exact filter_cut hn (fun b hb => h.1 a ha b hb) (fun b hb hp => h.2 a ha b hb hp)
theorem rowOf_nodup (ws : List Nat) (a : Nat) : (rowOf ws a).Nodup := by rw [rowOf_filter]; exact List.Pairwise.filter _ List.nodup_range
theorem rowOf_in {n : Nat} {ws : List Nat} {T : Nat → Nat → Bool} (hn : n ≤ 128) (h : Says n ws T) (a b : Nat) (ha : a < n) (hb : b < n) : b ∈ rowOf ws a ↔ T a b = true := by
  rw [rowOf_says hn h a ha, List.mem_filter]
  exact ⟨fun x => x.2, fun x => ⟨List.mem_range.2 hb, x⟩⟩
theorem bump_row {n : Nat} {ws : List Nat} {T : Nat → Nat → Bool} (hn : n ≤ 128) (h : Says n ws T) (d : Int) (ah : List Int) (hl : ah.length = n) (a b : Nat) (ha : a < n) (hb : b < n) : (bump d ah (rowOf ws a)).getD b 0 = ah.getD b 0 + if T a b then d else 0 := by
  rw [bump_get d _ ah b (by omega) (rowOf_nodup ws a)]
  have := rowOf_in hn h a b ha hb
  by_cases e : T a b = true
  · rw [if_pos (this.2 e), if_pos e]
  · rw [if_neg (fun x => e (this.1 x)), if_neg e]
theorem count_waits {n : Nat} {ws : List Nat} {T : Nat → Nat → Bool} (hn : n ≤ 128) (h : Says n ws T) (b : Nat) (hb : b < n) : (countW n ws).getD b 0 = (waits T n (List.replicate n false) b : Nat) := by
  have H : ∀ m, m ≤ n → ((List.range m).foldl (fun ah a => bump 1 ah (rowOf ws a)) (List.replicate n (0 : Int))).getD b 0 = (((List.range m).countP fun k => T k b : Nat) : Int) := by
    intro m
    induction m with
    | zero =>
      intro _
      show (List.replicate n (0 : Int)).getD b 0 = _
      rw [List.getD_eq_getElem?_getD, List.getElem?_replicate]; split <;> rfl
    | succ m ih =>
      intro hm
      have e := fold_succ (fun ah a => bump 1 ah (rowOf ws a)) (List.replicate n (0 : Int)) m
      have hl := countTo_len n m ws
      rw [e, bump_row hn h 1 _ hl m b (by omega) hb, ih (by omega), List.range_succ, List.countP_append]
      simp only [List.countP_cons, List.countP_nil]
      split <;> simp
  unfold countW
  rw [H n (Nat.le_refl _)]
  unfold waits
  congr 1
  apply List.countP_congr
  intro k hk
  have : (List.replicate n false).getD k false = false := by rw [List.getD_eq_getElem?_getD, List.getElem?_replicate]; split <;> rfl
  rw [this]; simp
theorem bump_length (d : Int) (ah : List Int) (l : List Nat) : (bump d ah l).length = ah.length := bump_len d ah l
theorem find_congr {p q : Nat → Bool} {n : Nat} (h : ∀ i, i < n → p i = q i) : (List.range n).find? p = (List.range n).find? q := by
  induction n with
  | zero => rfl
  | succ n ih =>
    rw [List.range_succ, List.find?_append, List.find?_append, ih fun i hi => h i (by omega)]
    simp only [List.find?_cons, List.find?_nil]
    rw [h n (by omega)]
theorem find_some_lt {p : Nat → Bool} {n i : Nat} (h : (List.range n).find? p = some i) : i < n ∧ p i = true :=
  ⟨List.mem_range.1 (List.mem_of_find?_eq_some h), List.find?_some h⟩
theorem ordW_eq {n : Nat} {ws : List Nat} {T : Nat → Nat → Bool} (hn : n ≤ 128) (h : Says n ws T) : ∀ (m : Nat) (ah : List Int) (dn : List Bool) (out : List Nat), n - out.length = m → ah.length = n → dn.length = n →
    (∀ b, b < n → ah.getD b 0 = (waits T n dn b : Nat)) → ordW n ws ah dn out = tordW T n dn out := by
  intro m
  induction m with
  | zero =>
    intro ah dn out hm _ _ _
    rw [ordW, tordW, if_neg (by omega), if_neg (by omega)]
  | succ m ih =>
    intro ah dn out hm hla hld hw
    have hlt : out.length < n := by omega
    rw [ordW, tordW, if_pos hlt, if_pos hlt]
    have hf : firstFree n ah dn = tfirst T n dn := by
      unfold firstFree tfirst
      refine find_congr fun i hi => ?_
      unfold freeAt tfree
      rw [hw i hi, Bool.and_comm]
      congr 1
      rw [Bool.eq_iff_iff, ← waits_free]
      simp
    rw [hf]
    cases e : tfirst T n dn with
    | none => rfl
    | some i =>
      obtain ⟨hi, hfi⟩ := find_some_lt e
      have hd : dn.getD i false = false := by
        unfold tfree at hfi
        rw [Bool.and_eq_true] at hfi
        simpa using hfi.1
      refine ih _ _ _ (by simp; omega) (by rw [bump_length]; exact hla) (by simp; exact hld) fun b hb => ?_
      rw [bump_row hn h (-1) ah hla i b hi hb, hw b hb, waits_done hi hld hd]
      split <;> omega
theorem order_eq {n : Nat} {ws : List Nat} {T : Nat → Nat → Bool} (hn : n ≤ 128) (h : Says n ws T) : orderW n ws = torder T n :=
  ordW_eq hn h _ _ _ _ rfl (countTo_len n n ws) (by simp) fun b hb => count_waits hn h b hb

/-- As many laid as told. -/
def doneN (dn : List Bool) : Nat := dn.countP id
theorem done_set {dn : List Bool} {i : Nat} (hi : i < dn.length) (h : dn.getD i false = false) : doneN (dn.set i true) = doneN dn + 1 := by
  unfold doneN
  have hx : dn[i] = false := by simpa [List.getD_eq_getElem?_getD, hi] using h
  rw [List.countP_set hi]
  simp [hx]
theorem done_all {dn : List Bool} (h : doneN dn = dn.length) (i : Nat) (hi : i < dn.length) : dn.getD i false = true := by
  unfold doneN at h
  have := List.countP_eq_length.1 h dn[i] (List.getElem_mem hi)
  simpa [List.getD_eq_getElem?_getD, hi] using this
theorem done_not {dn : List Bool} (h : doneN dn < dn.length) : ∃ i, i < dn.length ∧ dn.getD i false = false := by
  apply Classical.byContradiction
  intro hno
  have : doneN dn = dn.length := by
    unfold doneN
    rw [List.countP_eq_length]
    intro a ha
    obtain ⟨i, hi, rfl⟩ := List.getElem_of_mem ha
    cases e : dn[i]
    · exact absurd ⟨i, hi, by simpa [List.getD_eq_getElem?_getD, hi] using e⟩ hno
    · rfl
  omega
theorem tfree_done {T : Nat → Nat → Bool} {n : Nat} {dn : List Bool} {i : Nat} (h : tfree T n dn i = true) : dn.getD i false = false ∧ ∀ k, k < n → T k i = true → dn.getD k false = true := by
  unfold tfree at h
  rw [Bool.and_eq_true, List.all_eq_true] at h
  refine ⟨by simpa using h.1, fun k hk ht => ?_⟩
  have := h.2 k (List.mem_range.2 hk)
  rw [ht] at this
  simpa using this
/-- Where something leads back to itself there is no order. -/
theorem tord_round {n x : Nat} {T R : Nat → Nat → Bool} (hR : IsClos n T R) (hx : x < n) (hxx : R x x = true) : ∀ (m : Nat) (dn : List Bool) (out : List Nat), n - out.length = m → dn.length = n → doneN dn = out.length → out.length ≤ n →
    (∀ y, y < n → R y y = true → dn.getD y false = false) → tordW T n dn out = none := by
  intro m
  induction m with
  | zero =>
    intro dn out hm hl hd hle hno
    have := done_all (dn := dn) (by omega) x (by omega)
    rw [hno x hx hxx] at this; cases this
  | succ m ih =>
    intro dn out hm hl hd hle hno
    rw [tordW, if_pos (by omega)]
    cases e : tfirst T n dn with
    | none => rfl
    | some i =>
      obtain ⟨hi, hfi⟩ := find_some_lt e
      obtain ⟨h1, h2⟩ := tfree_done hfi
      refine ih _ _ (by simp; omega) (by simp; exact hl) (by rw [done_set (by omega) h1, hd]; simp) (by simp; omega) fun y hy hyy => ?_
      have hne : i ≠ y := by
        rintro rfl
        obtain ⟨z, hz, hzi, hzz⟩ := hR.back hi hyy
        have := h2 z hz hzi
        rw [hno z hz hzz] at this; cases this
      rw [getD_set, if_neg (by omega)]
      exact hno y hy hyy
/-- Where nothing does there is one. -/
theorem tord_some {n : Nat} {T R : Nat → Nat → Bool} (hR : IsClos n T R) (hno : ∀ x, x < n → R x x = false) : ∀ (m : Nat) (dn : List Bool) (out : List Nat), n - out.length = m → dn.length = n → doneN dn = out.length → out.length ≤ n →
    ∃ l, tordW T n dn out = some l ∧ l.length = n := by
  intro m
  induction m with
  | zero =>
    intro dn out hm hl hd hle
    exact ⟨out, by rw [tordW, if_neg (by omega)], by omega⟩
  | succ m ih =>
    intro dn out hm hl hd hle
    rw [tordW, if_pos (by omega)]
    cases e : tfirst T n dn with
    | some i =>
      obtain ⟨hi, hfi⟩ := find_some_lt e
      obtain ⟨h1, h2⟩ := tfree_done hfi
      exact ih _ _ (by simp; omega) (by simp; exact hl) (by rw [done_set (by omega) h1, hd]; simp) (by simp; omega)
    | none =>
      exfalso
      have hnf : ∀ i, i < n → tfree T n dn i = false := fun i hi => by
        have := List.find?_eq_none.1 e i (List.mem_range.2 hi)
        simpa using this
      -- one that is not laid, with the fewest ahead of it
      have H : ∀ c i, i < n → dn.getD i false = false → (List.range n).countP (fun y => R y i) = c → False := by
        intro c
        induction c using Nat.strongRecOn with
        | ind c ihc =>
          intro i hi hdi hc
          have hf := hnf i hi
          have : ¬ ((List.range n).all fun k => dn.getD k false || !T k i) = true := by
            intro h
            unfold tfree at hf
            rw [hdi, h] at hf; cases hf
          obtain ⟨k, hk, hkd, hkt⟩ : ∃ k, k < n ∧ dn.getD k false = false ∧ T k i = true := by
            apply Classical.byContradiction
            intro hx
            apply this
            rw [List.all_eq_true]
            intro k hk
            cases q : dn.getD k false
            · cases q2 : T k i
              · rfl
              · exact absurd ⟨k, List.mem_range.1 hk, q, q2⟩ hx
            · rfl
          have hki := hR.base k i hk hi hkt
          refine ihc _ ?_ k hk hkd rfl
          rw [← hc]
          refine countP_lt (fun y hy hyk => hR.trans y k i (List.mem_range.1 hy) hk hi hyk hki) ⟨k, List.mem_range.2 hk, hki, hno k hk⟩
      obtain ⟨i, hi, hdi⟩ := done_not (dn := dn) (by omega)
      exact H _ i (by omega) hdi rfl
theorem torder_none {n x : Nat} {T R : Nat → Nat → Bool} (hR : IsClos n T R) (hx : x < n) (hxx : R x x = true) : torder T n = none :=
  tord_round hR hx hxx _ _ _ rfl (by simp) (by simp [doneN]) (by simp) fun y hy _ => by
    rw [List.getD_eq_getElem?_getD, List.getElem?_replicate]; split <;> rfl
theorem torder_some {n : Nat} {T R : Nat → Nat → Bool} (hR : IsClos n T R) (hno : ∀ x, x < n → R x x = false) : ∃ l, torder T n = some l ∧ l.length = n :=
  tord_some hR hno _ _ _ rfl (by simp) (by simp [doneN]) (by simp)
end Go.Proofs.YtmiajpoclgdhbaaDoor
