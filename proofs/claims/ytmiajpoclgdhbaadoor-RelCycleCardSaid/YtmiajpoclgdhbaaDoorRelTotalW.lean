/- Total: its walk. -/
import Derived.Test.YtmiajpoclgdhbaaDoorRelBoth
namespace Go.Proofs.YtmiajpoclgdhbaaDoor
open Go.RowKit
set_option linter.unusedVariables false

def badT (f : Int → Int → Bool) (sm : List Bool) (a b : Nat) : Bool := sm.getD a false && sm.getD b false && !f a b && !f b a
def totB (f : Int → Int → Bool) (sm : List Bool) : Bool := (List.range sm.length).all fun a => (List.range a).all fun b => !badT f sm a b
def wantB (f : Int → Int → Bool) (sm : List Bool) : Bool := (List.range sm.length).all fun a => (List.range sm.length).all fun b => !(decide (a ≠ b) && badT f sm a b)
theorem badT_symm (f : Int → Int → Bool) (sm : List Bool) (a b : Nat) : badT f sm a b = badT f sm b a := by
  unfold badT
  cases sm.getD a false <;> cases sm.getD b false <;> cases f a b <;> cases f b a <;> rfl
theorem tot_want (f : Int → Int → Bool) (sm : List Bool) : totB f sm = wantB f sm := by
  rw [Bool.eq_iff_iff]
  unfold totB wantB
  simp only [List.all_eq_true, List.mem_range, Bool.not_eq_true', Bool.and_eq_false_imp, decide_eq_true_eq]
  constructor
  · intro h a ha b hb hab
    rcases Nat.lt_or_gt_of_ne hab with h1 | h1
    · rw [badT_symm]; exact h b hb a h1
    · exact h a ha b h1
  · intro h a ha b hb
    exact h a ha b (by omega) (by omega)
theorem tot_true {f : Int → Int → Bool} {sm : List Bool} (h : ∀ a, a < sm.length → ∀ b, b < a → badT f sm a b = false) : totB f sm = true := by
  unfold totB
  simp only [List.all_eq_true, List.mem_range, Bool.not_eq_true']
  exact h
theorem tot_false {f : Int → Int → Bool} {sm : List Bool} {a b : Nat} (ha : a < sm.length) (hb : b < a) (h : badT f sm a b = true) : totB f sm = false := by
  cases e : totB f sm
  · rfl
  · unfold totB at e
    simp only [List.all_eq_true, List.mem_range, Bool.not_eq_true'] at e
    rw [e a ha b hb] at h; cases h
/-- The answer as far as row k, place j. -/
def rowB (f : Int → Int → Bool) (sm : List Bool) (k j : Nat) : Bool := (List.range j).all fun b => !(decide (k ≠ b) && badT f sm k b)
def wantTo (f : Int → Int → Bool) (sm : List Bool) (k j : Nat) : Bool := ((List.range k).all fun a => rowB f sm a sm.length) && rowB f sm k j
theorem wantTo_start (f : Int → Int → Bool) (sm : List Bool) : wantTo f sm 0 0 = true := rfl
theorem wantTo_step (f : Int → Int → Bool) (sm : List Bool) (k j : Nat) : wantTo f sm k (j + 1) = (wantTo f sm k j && !(decide (k ≠ j) && badT f sm k j)) := by
  unfold wantTo rowB
  rw [List.range_succ, List.all_append]
  simp [Bool.and_assoc]
theorem wantTo_next (f : Int → Int → Bool) (sm : List Bool) (k : Nat) : wantTo f sm (k + 1) 0 = wantTo f sm k sm.length := by
  unfold wantTo
  rw [List.range_succ, List.all_append]
  simp [rowB]
theorem wantTo_end (f : Int → Int → Bool) (sm : List Bool) : wantTo f sm sm.length 0 = wantB f sm := by
  unfold wantTo wantB
  simp [rowB]
theorem bool_at {w : World} {p : Option Addr} {sm : List Bool} (h : Rds w 1 p sm.length (sm.map Value.bool)) {i : Nat} (hi : i < sm.length) : ∃ g off, p = some ⟨g, off, none⟩ ∧ w.cell? ⟨g, off + i, none⟩ = some (.bool (sm.getD i false)) := by
  obtain ⟨g, off, u, hp, hu, hc⟩ := h.at_ (j := i) (by omega)
  refine ⟨g, off, hp, ?_⟩
  rw [hc, ← hu]
  simp [hi]

set_option maxHeartbeats 3200000 in
theorem reltotal_any (h g n : Nat) (ws : List Nat) (sm : List Bool) (p : Option Addr) (c : Nat) (w : World) (r : RelAt w h g n ws) (hn : n ≤ 128) (hs : Rds w 1 p sm.length (sm.map Value.bool)) (hc : sm.length ≤ c) (hl : sm.length ≤ 1000000) :
    Calls Tryd.prog 16 #[.pointer (some ⟨h, 0, none⟩), .slice p sm.length c] w fun e w' => e = .returned (.bool (totB (hasZ ws n) sm)) ∧ w = w' := by
  have HS := Lib.hid hs
  have HH := Lib.hid (fun a b => relhas_any h g n ws a b w r hn)
  clear hs r
  generalize hasZ ws n = f at *
  go_enter Tryd.func16, Tryd.ntmps16
  go_wp2_with fail
  go_loop [9] (fun i => ∃ k : Nat, k ≤ sm.length ∧ i = .int .i64 k ∧ ∀ a, a < k → ∀ b, b < a → badT f sm a b = false) (fun i => sm.length - (intOf i).toNat)
  case atStart => exact ⟨0, by omega, rfl, fun a ha => by omega⟩
  case round =>
    obtain ⟨k, hk, rfl, hok⟩ := hrel
    have HOK := Lib.hid hok
    clear hok
    by_cases hlt : k < sm.length
    · obtain ⟨g1, off, rfl, ca⟩ := bool_at HS.out hlt
      have hk0 : (0 : Int) ≤ k := by omega
      have hki : (k : Int) < sm.length := by omega
      go_wp2_with fail
      go_loop [13] (fun i => ∃ j : Nat, j ≤ k ∧ i = .int .i64 j ∧ ∀ b, b < j → badT f sm k b = false) (fun i => k - (intOf i).toNat)
      case atStart => exact ⟨0, by omega, rfl, fun b hb => by omega⟩
      case round =>
        obtain ⟨j, hj, rfl, hok2⟩ := hrel
        have HOK2 := Lib.hid hok2
        clear hok2
        by_cases hlj : j < k
        · obtain ⟨g2, off2, hpe, cb⟩ := bool_at HS.out (show j < sm.length by omega)
          injection hpe with hpe
          injection hpe with e1 e2 e3
          subst e1 e2
          have hj0 : (0 : Int) ≤ j := by omega
          have hji : (j : Int) < k := by omega
          have hjs : (j : Int) < sm.length := by omega
          have HN := Lib.hid (fun (e : badT f sm k j = false) => show ∀ b, b < j + 1 → badT f sm k b = false from fun b hb => by
            by_cases e2 : b = j
            · subst e2; exact e
            · exact HOK2.out b (by omega))
          have HF := Lib.hid (fun (e : badT f sm k j = true) => tot_false hlt hlj e)
          have HD := Lib.hid (show badT f sm k j = (sm.getD k false && sm.getD j false && !f k j && !f j k) from rfl)
          have HA := Lib.hid (HH.out k j)
          have HB := Lib.hid (HH.out j k)
          generalize badT f sm k j = z at *
          generalize sm.getD k false = s1 at *
          generalize sm.getD j false = s2 at *
          generalize f k j = f1 at *
          generalize f j k = f2 at *
          cases s1
          · have HZ := Lib.hid (HN.out (by rw [HD.out]; rfl))
            go_wp2_with fail
            go_round
            case rel => exact ⟨j + 1, by omega, by go_num, HZ.out⟩
            case measure => simp [intOf]; omega
          · cases s2
            · have HZ := Lib.hid (HN.out (by rw [HD.out]; rfl))
              go_wp2_with fail
              go_round
              case rel => exact ⟨j + 1, by omega, by go_num, HZ.out⟩
              case measure => simp [intOf]; omega
            · go_wp2_with fail
              refine (HA.out).mono ?_
              rintro e w' ⟨rfl, rfl⟩
              cases f1
              · go_wp2_with fail
                refine (HB.out).mono ?_
                rintro e w' ⟨rfl, rfl⟩
                cases f2
                · have HZ := Lib.hid (HF.out (by rw [HD.out]; rfl))
                  go_wp2_with fail
                  go_ret
                  exact ⟨by rw [HZ.out]; rfl, rfl⟩
                · have HZ := Lib.hid (HN.out (by rw [HD.out]; rfl))
                  go_wp2_with fail
                  go_round
                  case rel => exact ⟨j + 1, by omega, by go_num, HZ.out⟩
                  case measure => simp [intOf]; omega
              · have HZ := Lib.hid (HN.out (by rw [HD.out]; simp))
                go_wp2_with fail
                go_round
                case rel => exact ⟨j + 1, by omega, by go_num, HZ.out⟩
                case measure => simp [intOf]; omega
        · obtain rfl : j = k := by omega
          go_wp2_with fail
          go_round
          case rel => exact ⟨j + 1, by omega, by go_num, fun a ha b hb => by
            by_cases e : a = j
            · subst e; exact HOK2.out b hb
            · exact HOK.out a (by omega) b hb⟩
          case measure => simp [intOf]; omega
    · obtain rfl : k = sm.length := by omega
      have HZ := Lib.hid (tot_true HOK.out)
      go_wp2_with fail
      go_ret
      exact ⟨by rw [HZ.out]; rfl, rfl⟩
end Go.Proofs.YtmiajpoclgdhbaaDoor
