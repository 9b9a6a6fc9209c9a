/- both; Has of the reference; what both say of a pair. -/
import Derived.Test.YtmiajpoclgdhbaaDoorRelTab
import Derived.Test.YtmiajpoclgdhbaaDoorRelAwake
namespace Go.Proofs.YtmiajpoclgdhbaaDoor
open Go.RowKit
set_option linter.unusedVariables false

def tabZ (T : Nat → Nat → Bool) (n : Nat) (a b : Int) : Bool := decide (0 ≤ a) && decide (a < n) && (decide (0 ≤ b) && decide (b < n)) && T a.toNat b.toNat
theorem tabZ_no (T : Nat → Nat → Bool) (n : Nat) (a b : Int) (h : ¬ (0 ≤ a ∧ a < n ∧ 0 ≤ b ∧ b < n)) : tabZ T n a b = false := by
  unfold tabZ
  by_cases h1 : 0 ≤ a <;> by_cases h2 : a < n <;> by_cases h3 : 0 ≤ b <;> by_cases h4 : b < n <;> simp [h1, h2, h3, h4] at h ⊢
theorem tabZ_yes (T : Nat → Nat → Bool) (n a b : Nat) (h1 : a < n) (h2 : b < n) : tabZ T n a b = T a b := by
  unfold tabZ; rw [decide_eq_true (by omega), decide_eq_true (by omega), decide_eq_true (by omega), decide_eq_true (by omega)]; rfl
theorem hasZ_no (ws : List Nat) (n : Nat) (a b : Int) (h : ¬ (0 ≤ a ∧ a < n ∧ 0 ≤ b ∧ b < n)) : hasZ ws n a b = false := by
  unfold hasZ
  by_cases h1 : 0 ≤ a <;> by_cases h2 : a < n <;> by_cases h3 : 0 ≤ b <;> by_cases h4 : b < n <;> simp [h1, h2, h3, h4] at h ⊢
theorem hasZ_yes (ws : List Nat) (n a b : Nat) (h1 : a < n) (h2 : b < n) : hasZ ws n a b = hasB ws a b := by
  unfold hasZ; rw [decide_eq_true (by omega), decide_eq_true (by omega), decide_eq_true (by omega), decide_eq_true (by omega)]; rfl
set_option maxHeartbeats 1600000 in
theorem thas_any (g n : Nat) (T : Nat → Nat → Bool) (a b : Int) (w : World) (h : TabAt w g n T) :
    Calls Tryd.prog 15 #[.slice (some ⟨g, 0, none⟩) n n, .int .i64 a, .int .i64 b] w fun e w' => e = .returned (.bool (tabZ T n a b)) ∧ w = w' := by
  have HN := Lib.hid (tabZ_no T n a b)
  have HY := Lib.hid (tabZ_yes T n)
  by_cases h1 : 0 ≤ a
  · by_cases h2 : 0 ≤ b
    · by_cases h3 : a < n
      · by_cases h4 : b < n
        · obtain ⟨a, rfl⟩ := Int.eq_ofNat_of_zero_le h1
          obtain ⟨b, rfl⟩ := Int.eq_ofNat_of_zero_le h2
          have ha : a < n := by omega
          have hb : b < n := by omega
          have hY := HY.out a b ha hb
          have ho := h.outer ha
          have hm := h.mark ha hb
          rw [hY]
          clear h HY HN hY
          generalize T a b = z at *
          go_enter Tryd.func15, Tryd.ntmps15
          go_wp2_with fail
          go_ret
          exact ⟨rfl, rfl⟩
        · rw [HN.out (by omega)]
          clear HN HY h
          go_enter Tryd.func15, Tryd.ntmps15
          go_wp2_with fail
          go_ret
          exact ⟨rfl, rfl⟩
      · rw [HN.out (by omega)]
        clear HN HY h
        go_enter Tryd.func15, Tryd.ntmps15
        go_wp2_with fail
        go_ret
        exact ⟨rfl, rfl⟩
    · rw [HN.out (by omega)]
      clear HN HY h
      go_enter Tryd.func15, Tryd.ntmps15
      go_wp2_with fail
      go_ret
      exact ⟨rfl, rfl⟩
  · rw [HN.out (by omega)]
    clear HN HY h
    go_enter Tryd.func15, Tryd.ntmps15
    go_wp2_with fail
    go_ret
    exact ⟨rfl, rfl⟩

def bothOk (n : Int) (l : List (Int × Int)) : Bool := decide (0 ≤ n ∧ n ≤ 40 ∧ l.length ≤ 200) && l.all (okP n.toNat)
def BothPost (n : Int) (l : List (Int × Int)) (w : World) (e : Ending) (w' : World) : Prop :=
  Below w.heap.size w w' ∧ ((bothOk n l = false ∧ e = .returned (.tuple #[.pointer none, .slice none 0 0])) ∨
    (bothOk n l = true ∧ ∃ (N t h g : Nat), n = (N : Int) ∧ N ≤ 40 ∧ w.heap.size ≤ t ∧ t + 1 + N ≤ g ∧ t + 1 + N ≤ h ∧ e = .returned (.tuple #[.pointer (some ⟨h, 0, none⟩), .slice (some ⟨t, 0, none⟩) N N]) ∧ TabAt w' t N (inL l) ∧ RelAt w' h g N (ofW N l)))
set_option maxHeartbeats 1600000 in
theorem both_any (n : Int) (l : List (Int × Int)) (p : Option Addr) (c : Nat) (w : World) (hl : l.length ≤ 9223372036854775807) (hp : Rds w 2 p l.length (pairCells l)) (hc : l.length ≤ c) :
    Calls Tryd.prog 14 #[.int .i64 n, .slice p l.length c] w (BothPost n l w) := by
  have HN := Lib.hid (show ¬ (0 ≤ n ∧ n ≤ 40 ∧ l.length ≤ 200) → bothOk n l = false from fun h => by unfold bothOk; rw [decide_eq_false h]; rfl)
  by_cases h1 : n < 0
  · have HF := Lib.hid (HN.out (by omega))
    clear hp
    go_enter Tryd.func14, Tryd.ntmps14
    go_wp2_with fail
    go_ret2
    exact ⟨Below.refl _ _, .inl ⟨HF.out, rfl⟩⟩
  · by_cases h2 : 40 < n
    · have HF := Lib.hid (HN.out (by omega))
      clear hp
      go_enter Tryd.func14, Tryd.ntmps14
      go_wp2_with fail
      go_ret2
      exact ⟨Below.refl _ _, .inl ⟨HF.out, rfl⟩⟩
    · by_cases h3 : 200 < l.length
      · have HF := Lib.hid (HN.out (by omega))
        have h3i : (200 : Int) < l.length := by omega
        clear hp
        go_enter Tryd.func14, Tryd.ntmps14
        go_wp2_with fail
        go_ret2
        exact ⟨Below.refl _ _, .inl ⟨HF.out, rfl⟩⟩
      · have h3i : ¬ (200 : Int) < l.length := by omega
        obtain ⟨N, rfl⟩ := Int.eq_ofNat_of_zero_le (show 0 ≤ n by omega)
        have hN : N ≤ 40 := by omega
        have HOK := Lib.hid (show bothOk N l = l.all (okP N) from by unfold bothOk; rw [decide_eq_true (by omega)]; simp)
        have HT := Lib.hid (tof_any N l p c w (by omega) (by omega) hp hc)
        have HP := Lib.hid hp
        clear HN hp
        go_enter Tryd.func14, Tryd.ntmps14
        go_wp2_with fail
        refine (HT.out).mono ?_
        rintro e w1 ⟨hb1, ⟨hok, rfl, ht, hz⟩ | ⟨hbad, rfl⟩⟩
        · have HB := Lib.hid hb1
          have HTA := Lib.hid ht
          have HOF := Lib.hid (relof_any N l p c w1 (by omega) (by omega) (HP.out.below hb1) hc)
          have HOL := Lib.hid hok
          have HZ := Lib.hid hz
          clear hb1 ht hok HT hz
          go_wp2_with fail
          refine (HOF.out).mono ?_
          rintro e w2 ⟨hb2, ⟨_, rfl, hr⟩ | ⟨hbad, _⟩⟩
          · have HB2 := Lib.hid (below_trans HB.out hb2)
            have HTA2 := Lib.hid (HTA.out.keep hb2)
            have HR := Lib.hid hr
            clear hb2 hr HOF
            go_wp2_with fail
            go_ret2
            exact ⟨HB2.out, .inr ⟨HOK.out.trans HOL.out, N, w.heap.size, w1.heap.size + 1, w1.heap.size, rfl, hN, Nat.le_refl _, HZ.out, by have := HZ.out; omega, rfl, HTA2.out, HR.out⟩⟩
          · rw [HOL.out] at hbad; cases hbad
        · have HB := Lib.hid hb1
          have HOL := Lib.hid hbad
          clear hb1 hbad HT
          go_wp2_with fail
          go_ret2
          exact ⟨HB.out, .inl ⟨HOK.out.trans HOL.out, rfl⟩⟩

/-! What the words say. -/
theorem setW_getD (ws : List Nat) (j b i : Nat) (h : j < ws.length) : (setW ws j b).getD i 0 = if i = j then ws.getD j 0 ||| 2 ^ b else ws.getD i 0 := by
  unfold setW
  rw [getD_set]
  by_cases e : i = j
  · subst e; simp [h]
  · rw [if_neg (by omega), if_neg e]
theorem hasB_addP (ws : List Nat) (n a b x y : Nat) (hl : ws.length = 2 * n) (ha : a < n) (hb : b < 128) (hy : y < 128) : hasB (addP ws a b) x y = (hasB ws x y || (decide (x = a) && decide (y = b))) := by
  unfold hasB addP
  rw [setW_getD _ _ _ _ (by omega)]
  by_cases e : 2 * x + y / 64 = 2 * a + b / 64
  · rw [if_pos e, Nat.testBit_or, Nat.testBit_two_pow, ← e]
    by_cases e2 : b % 64 = y % 64
    · have h1 : x = a := by omega
      have h2 : y = b := by omega
      rw [decide_eq_true e2, decide_eq_true h1, decide_eq_true h2]; rfl
    · rw [decide_eq_false e2]
      have : (decide (x = a) && decide (y = b)) = false := by simp; intro h1 h2; subst h2; exact e2 rfl
      rw [this]
  · rw [if_neg e]
    have : (decide (x = a) && decide (y = b)) = false := by simp; intro h1 h2; subst h1 h2; exact e rfl
    rw [this, Bool.or_false]
theorem hasB_zeros (n x y : Nat) : hasB (zeros n) x y = false := by unfold hasB; rw [zeros_get]; simp
theorem ofTo_len (n : Nat) (l : List (Int × Int)) : (ofW n l).length = 2 * n := by
  have : ∀ (l : List (Int × Int)) (ws : List Nat), (l.foldl (fun ws p => addP ws p.1.toNat p.2.toNat) ws).length = ws.length := by
    intro l
    induction l with
    | nil => intro ws; rfl
    | cons p l ih => intro ws; rw [List.foldl_cons, ih, addP_len]
  rw [ofW, this]; simp [zeros]
theorem hasB_of (n : Nat) (hn : n ≤ 128) (l : List (Int × Int)) (hok : l.all (okP n) = true) (x y : Nat) (hy : y < 128) : hasB (ofW n l) x y = inL l x y := by
  have H : ∀ (l : List (Int × Int)) (ws : List Nat), ws.length = 2 * n → l.all (okP n) = true → hasB (l.foldl (fun ws p => addP ws p.1.toNat p.2.toNat) ws) x y = (hasB ws x y || inL l x y) := by
    intro l
    induction l with
    | nil => intro ws _ _; simp [inL]
    | cons p l ih =>
      intro ws hl h
      rw [List.all_cons, Bool.and_eq_true] at h
      obtain ⟨p0, p1, p2, p3⟩ := of_decide_eq_true h.1
      rw [List.foldl_cons, ih _ (by rw [addP_len]; exact hl) h.2, hasB_addP ws n p.1.toNat p.2.toNat x y hl (by omega) (by omega) hy, Bool.or_assoc]
      congr 1
      show _ = ((p.1.toNat == x && p.2.toNat == y) || inL l x y)
      congr 1
      rw [Bool.eq_iff_iff]; simp; omega
  rw [ofW, H l (zeros n) (by simp [zeros]) hok, hasB_zeros, Bool.false_or]
theorem inL_lt {n : Nat} {l : List (Int × Int)} (hok : l.all (okP n) = true) {a b : Nat} (h : inL l a b = true) : a < n ∧ b < n := by
  unfold inL at h
  rw [List.any_eq_true] at h
  obtain ⟨p, hp, he⟩ := h
  have := List.all_eq_true.1 hok p hp
  obtain ⟨p0, p1, p2, p3⟩ := of_decide_eq_true this
  simp at he
  omega
theorem hasZ_of (n : Nat) (hn : n ≤ 128) (l : List (Int × Int)) (hok : l.all (okP n) = true) (a b : Int) : hasZ (ofW n l) n a b = tabZ (inL l) n a b := by
  by_cases h : 0 ≤ a ∧ a < n ∧ 0 ≤ b ∧ b < n
  · obtain ⟨h0, h1, h2, h3⟩ := h
    obtain ⟨a, rfl⟩ := Int.eq_ofNat_of_zero_le h0
    obtain ⟨b, rfl⟩ := Int.eq_ofNat_of_zero_le h2
    rw [hasZ_yes _ _ _ _ (by omega) (by omega), tabZ_yes _ _ _ _ (by omega) (by omega), hasB_of n hn l hok a b (by omega)]
  · rw [hasZ_no _ _ _ _ h, tabZ_no _ _ _ _ h]
theorem bitsL_mem {x b : Nat} (h : b ∈ bitsL x) : b < 64 ∧ x.testBit b = true := by
  unfold bitsL at h
  rw [List.mem_filter, List.mem_range] at h
  exact h
theorem rowOf_mem {ws : List Nat} {a b : Nat} (h : b ∈ rowOf ws a) : b < 128 ∧ hasB ws a b = true := by
  unfold rowOf rowL at h
  rcases List.mem_append.1 h with h | h
  · obtain ⟨h1, h2⟩ := bitsL_mem h
    refine ⟨by omega, ?_⟩
    unfold hasB
    rw [show 2 * a + b / 64 = a * 2 by omega, show b % 64 = b by omega]; exact h2
  · obtain ⟨c, hc, rfl⟩ := List.mem_map.1 h
    obtain ⟨h1, h2⟩ := bitsL_mem hc
    refine ⟨by omega, ?_⟩
    unfold hasB
    rw [show 2 * a + (64 + c) / 64 = a * 2 + 1 by omega, show (64 + c) % 64 = c by omega]; exact h2
theorem wf_of (n : Nat) (hn : n ≤ 128) (l : List (Int × Int)) (hok : l.all (okP n) = true) : WF n (ofW n l) := by
  intro a ha b hb
  obtain ⟨h1, h2⟩ := rowOf_mem hb
  rw [hasB_of n hn l hok a b h1] at h2
  exact (inL_lt hok h2).2
end Go.Proofs.YtmiajpoclgdhbaaDoor
