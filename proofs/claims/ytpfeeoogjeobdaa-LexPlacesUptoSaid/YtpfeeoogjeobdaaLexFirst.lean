/- The contracts of First, in both. -/
import Derived.Test.YtpfeeoogjeobdaaLexWalk
import Derived.Laws.Rows
namespace Go.Proofs.Ytpfeeoogjeobdaa
open Go.RowKit
set_option linter.unusedVariables false

/-- Where a name ends. -/
def nonLet (s : ByteArray) (k : Nat) : Bool := !letterB (bt s k)
def wordE (s : ByteArray) (i : Nat) : Nat := scan (nonLet s) s.size i
theorem wordE_bd (s : ByteArray) (i : Nat) : i ≤ wordE s i ∧ (i ≤ s.size → wordE s i ≤ s.size) := scan_ge _ _ _ _ rfl
theorem bt_extract (s : ByteArray) (i k : Nat) (hi : i ≤ s.size) : bt (s.extract i s.size) k = bt s (i + k) := by
  unfold bt
  have e : (s.extract i s.size).size = s.size - i := by simp
  by_cases h : k < s.size - i
  · rw [dif_pos (by omega), dif_pos (by omega)]
    congr 2
    exact ByteArray.getElem_extract ..
  · rw [dif_neg (by omega), dif_neg (by omega)]
theorem scan_shift (p q : Nat → Bool) (d : Nat) (h : ∀ k, p k = q (d + k)) : ∀ (n to i : Nat), to - i = n → d + scan p to i = scan q (d + to) (d + i) := by
  intro n
  induction n with
  | zero => intro to i hn; rw [scan_stop (by omega), scan_stop (by omega)]
  | succ n ih =>
    intro to i hn
    cases hp : p i
    · rw [scan_miss (by omega) hp, scan_miss (p := q) (to := d + to) (i := d + i) (by omega) (by rw [← h]; exact hp)]
      exact ih to (i + 1) (by omega)
    · rw [scan_hit (by omega) hp, scan_hit (p := q) (to := d + to) (i := d + i) (by omega) (by rw [← h]; exact hp)]
theorem wordE_extract (s : ByteArray) (i : Nat) (hi : i ≤ s.size) : i + wordE (s.extract i s.size) 0 = wordE s i := by
  unfold wordE
  have e : (s.extract i s.size).size = s.size - i := by simp
  rw [e, scan_shift (nonLet (s.extract i s.size)) (nonLet s) i (fun k => by unfold nonLet; rw [bt_extract s i k hi]) _ _ _ rfl]
  congr 1 <;> omega
theorem extract_extract' (s : ByteArray) (i n : Nat) (hi : i + n ≤ s.size) : (s.extract i s.size).extract 0 n = s.extract i (i + n) := by
  rw [ByteArray.extract_extract]
  congr 1; omega

set_option maxHeartbeats 1600000 in
theorem rfirst_any (t : ByteArray) (w : World) (hs : t.size ≤ 140737488351232) :
    Calls Try.prog 14 #[.string t] w fun e w' => e = .returned (.string (t.extract 0 (wordE t 0))) ∧ w = w' := by
  go_enter Try.func14, Try.ntmps14
  go_wp2_with fail
  go_loop [3] (fun i => ∃ k : Nat, k ≤ t.size ∧ i = .int .i64 k ∧ scan (nonLet t) t.size k = wordE t 0) (fun i => t.size - (intOf i).toNat)
  case atStart => exact ⟨0, by omega, rfl, rfl⟩
  case round =>
    obtain ⟨k, hk, rfl, hsc⟩ := hrel
    have HS := Lib.hid hsc
    clear hsc
    by_cases hlt : k < t.size
    · have HB := Lib.hid (bt_eq hlt)
      cases hl : letterB (t[k].toNat : Int)
      · have HE := Lib.hid (show wordE t 0 = k from by rw [← HS.out]; exact scan_hit hlt (by unfold nonLet; rw [HB.out, hl]; rfl))
        go_wp2_with (go_at_call 26; refine (rletter_any _ _).mono ?_; rintro e w' ⟨rfl, rfl⟩)
        go_ret
        exact ⟨by rw [HE.out]; rfl, rfl⟩
      · have HS2 := Lib.hid (show scan (nonLet t) t.size (k + 1) = wordE t 0 from by rw [← HS.out]; exact (scan_miss hlt (by unfold nonLet; rw [HB.out, hl]; rfl)).symm)
        go_wp2_with (go_at_call 26; refine (rletter_any _ _).mono ?_; rintro e w' ⟨rfl, rfl⟩)
        go_round
        case rel => exact ⟨k + 1, by omega, by go_num, HS2.out⟩
        case measure => simp [intOf]; omega
    · obtain rfl : k = t.size := by omega
      have HE := Lib.hid (show wordE t 0 = t.size from by rw [← HS.out]; exact scan_stop (by omega))
      go_wp2_with (go_at_call 26; refine (rletter_any _ _).mono ?_; rintro e w' ⟨rfl, rfl⟩)
      go_ret
      exact ⟨by rw [HE.out]; simp, rfl⟩

set_option maxHeartbeats 1600000 in
theorem first_any (t : ByteArray) (at_ : Int) (w : World) (hs : t.size ≤ 140737488351232) :
    Calls Try.prog 13 #[.agg #[.string t, .int .i64 at_]] w fun e w' => e = .returned (.string (t.extract 0 (wordE t 0))) ∧ Below w.heap.size w w' := by
  have HB := Lib.hid (show Blk (w.alloc (.cells #[.string t, .int .i64 at_] 30)) 30 w.heap.size [.string t, .int .i64 at_] from Blk.new _ _ _)
  have HW := Lib.hid (show Below w.heap.size w (w.alloc (.cells #[.string t, .int .i64 at_] 30)) from below_alloc (Below.refl _ _) _)
  go_enter Try.func13, Try.ntmps13
  go_wp2_with fail
  obtain ⟨w1, hw1⟩ : ∃ w1, w1 = w.alloc (.cells #[.string t, .int .i64 at_] 30) := ⟨_, rfl⟩
  rw [← hw1] at HB HW ⊢
  clear hw1
  have hc := HB.out.cell 0
  go_loop [3] (fun i => ∃ k : Nat, k ≤ t.size ∧ i = .int .i64 k ∧ scan (nonLet t) t.size k = wordE t 0) (fun i => t.size - (intOf i).toNat)
  case atStart => exact ⟨0, by omega, rfl, rfl⟩
  case round =>
    obtain ⟨k, hk, rfl, hsc⟩ := hrel
    have HS := Lib.hid hsc
    clear hsc
    by_cases hlt : k < t.size
    · have HB := Lib.hid (bt_eq hlt)
      cases hl : letterB (t[k].toNat : Int)
      · have HE := Lib.hid (show wordE t 0 = k from by rw [← HS.out]; exact scan_hit hlt (by unfold nonLet; rw [HB.out, hl]; rfl))
        go_wp2_with (go_at_call 19; refine (letter_any _ _).mono ?_; rintro e w' ⟨rfl, rfl⟩)
        go_ret
        exact ⟨by rw [HE.out]; rfl, HW.out⟩
      · have HS2 := Lib.hid (show scan (nonLet t) t.size (k + 1) = wordE t 0 from by rw [← HS.out]; exact (scan_miss hlt (by unfold nonLet; rw [HB.out, hl]; rfl)).symm)
        go_wp2_with (go_at_call 19; refine (letter_any _ _).mono ?_; rintro e w' ⟨rfl, rfl⟩)
        go_round
        case rel => exact ⟨k + 1, by omega, by go_num, HS2.out⟩
        case measure => simp [intOf]; omega
    · obtain rfl : k = t.size := by omega
      have HE := Lib.hid (show wordE t 0 = t.size from by rw [← HS.out]; exact scan_stop (by omega))
      go_wp2_with (go_at_call 19; refine (letter_any _ _).mono ?_; rintro e w' ⟨rfl, rfl⟩)
      go_ret
      exact ⟨by rw [HE.out]; simp, HW.out⟩
end Go.Proofs.Ytpfeeoogjeobdaa
