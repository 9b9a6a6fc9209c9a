/- A kind by its name. -/
import Derived.Test.YtlhkjjfdmglabaaAsmRdr3
namespace Go.Proofs.Ytlhkjjfdmglabaa
open Go.RowKit
set_option linter.unusedVariables false
set_option linter.unusedSimpArgs false

/-- Function f names the numbers below a bound. -/
def Names (f : FuncId) (most : Nat) (name : Nat → List UInt8) : Prop := ∀ (k : Nat) (w : World), k < most → Calls Try.prog f #[.int .i64 k] w fun e w' => e = .returned (.string (ba (name k))) ∧ w = w'
set_option maxRecDepth 100000 in
theorem bar_names : Names 37 16 barN := by
  intro k w hk
  have hkk : k = 0 ∨ k = 1 ∨ k = 2 ∨ k = 3 ∨ k = 4 ∨ k = 5 ∨ k = 6 ∨ k = 7 ∨ k = 8 ∨ k = 9 ∨ k = 10 ∨ k = 11 ∨ k = 12 ∨ k = 13 ∨ k = 14 ∨ k = 15 := by omega
  rcases hkk with rfl | rfl | rfl | rfl | rfl | rfl | rfl | rfl | rfl | rfl | rfl | rfl | rfl | rfl | rfl | rfl
  · go_enter Try.func37, Try.ntmps37
    go_wp2
    go_ret
    exact ⟨rfl, rfl⟩
  · go_enter Try.func37, Try.ntmps37
    go_wp2
    go_ret
    exact ⟨rfl, rfl⟩
  · go_enter Try.func37, Try.ntmps37
    go_wp2
    go_ret
    exact ⟨rfl, rfl⟩
  · go_enter Try.func37, Try.ntmps37
    go_wp2
    go_ret
    exact ⟨rfl, rfl⟩
  · go_enter Try.func37, Try.ntmps37
    go_wp2
    go_ret
    exact ⟨rfl, rfl⟩
  · go_enter Try.func37, Try.ntmps37
    go_wp2
    go_ret
    exact ⟨rfl, rfl⟩
  · go_enter Try.func37, Try.ntmps37
    go_wp2
    go_ret
    exact ⟨rfl, rfl⟩
  · go_enter Try.func37, Try.ntmps37
    go_wp2
    go_ret
    exact ⟨rfl, rfl⟩
  · go_enter Try.func37, Try.ntmps37
    go_wp2
    go_ret
    exact ⟨rfl, rfl⟩
  · exact abar_9 w
  · exact abar_10 w
  · exact abar_11 w
  · go_enter Try.func37, Try.ntmps37
    go_wp2
    go_ret
    exact ⟨rfl, rfl⟩
  · exact abar_13 w
  · exact abar_14 w
  · exact abar_15 w
set_option maxRecDepth 100000 in
theorem flush_names : Names 38 8 flushN := by
  intro k w hk
  have hkk : k = 0 ∨ k = 1 ∨ k = 2 ∨ k = 3 ∨ k = 4 ∨ k = 5 ∨ k = 6 ∨ k = 7 := by omega
  rcases hkk with rfl | rfl | rfl | rfl | rfl | rfl | rfl | rfl
  · exact aflush_0 w
  · exact aflush_1 w
  · exact aflush_2 w
  · exact aflush_3 w
  · exact aflush_4 w
  · exact aflush_5 w
  · exact aflush_6 w
  · exact aflush_7 w
set_option maxRecDepth 100000 in
theorem sys_names : Names 39 3 sysN := by
  intro k w hk
  have hkk : k = 0 ∨ k = 1 ∨ k = 2 := by omega
  rcases hkk with rfl | rfl | rfl
  · exact asys_0 w
  · exact asys_1 w
  · exact asys_2 w
theorem find_hit {most : Nat} {p : Nat → Bool} {k : Nat} (hk : k < most) (h : p k = true) (hp : ∀ i, i < k → p i = false) : (List.range most).find? p = some k := by
  rw [List.find?_range_eq_some]
  exact ⟨h, by simpa using hk, fun i hi => by simpa using hp i hi⟩
theorem find_none {most : Nat} {p : Nat → Bool} (hp : ∀ i, i < most → p i = false) : (List.range most).find? p = none := by
  rw [List.find?_range_eq_none]
  intro i hi; simpa using hp i hi
set_option maxRecDepth 100000 in
set_option maxHeartbeats 1600000 in
theorem akind_any {r G : Nat} {s : AS} (w : World) (f : FuncId) (most : Nat) (name : Nat → List UInt8) (hn : Names f most name) (hm : most ≤ 1000) (hf : ∀ args w1, (callFunc f args).run Try.prog w1 = .ok (.enter f args) w1) (h : ARd w r G s) :
    Calls Try.prog 50 #[.pointer (some ⟨r, 0, none⟩), .int .i64 most, .func (.func f) #[] #[]] w (SomeR r G w intV (kindA s most name)) := by
  have HN := Lib.hid (anext_any w h)
  have HF := Lib.hid hn
  have HK := Lib.hid (show kindA s most name = if (nextA s).1 = [] then (0, badA (nextA s).2 true) else match (List.range most).find? (fun k => decide (name k = (nextA s).1)) with | some k => (((k : Nat) : Int), (nextA s).2) | none => (0, badA (nextA s).2 true) from rfl)
  generalize nextA s = y at *
  obtain ⟨x, s2⟩ := y
  obtain ⟨ws, bad⟩ := s2
  clear h hn
  simp only at HK
  go_enter Try.func50, Try.ntmps50
  go_wp2_with fail
  refine (HN.out).mono ?_
  rintro e w2 ⟨rfl, hr, hg⟩
  have HR := Lib.hid hr
  have HG := Lib.hid hg
  have hrl := hr.lt
  obtain ⟨p, cc, hB, _⟩ := hr
  have c0 := hB.cell 0
  have c1 := hB.cell 1
  have f0 := hB.free 0
  have f1 := hB.free 1
  simp only [List.getElem?_cons_zero, List.getElem?_cons_succ] at c0 c1
  clear hB
  clear hg HN
  go_wp2_with fail
  go_loop [8, 12] (fun _ i => ∃ k : Nat, k ≤ most ∧ i = .int .i64 k ∧ (∀ j, j < k → ¬ (name j = x ∧ ¬ x = []))) (fun _ i => most - (intOf i).toNat)
  case atStart => exact ⟨0, by omega, rfl, fun j hj => by omega⟩
  case round =>
    obtain ⟨k, hk, rfl, hP⟩ := hrel
    have HP := Lib.hid hP
    clear hP
    by_cases hkl : k < most
    · have hk0 : (0 : Int) ≤ k := by omega
      have hkn : (k : Int) < most := by omega
      have HC := Lib.hid (HF.out k w2 hkl)
      by_cases hx : name k = x
      · by_cases he : x = []
        · have hxe : (ba x).toList.isEmpty = true := by rw [ba_toList, he]; rfl
          have HP2 := Lib.hid (show ∀ j, j < k + 1 → ¬ (name j = x ∧ ¬ x = []) from fun j hj h => h.2 he)
          rw [hx] at HC
          clear hx he
          go_wp2_with fail
          refine (HC.out).mono ?_
          rintro e w3 ⟨rfl, rfl⟩
          go_wp2_with fail
          go_round
          case rel => exact ⟨k + 1, by omega, by go_num, HP2.out⟩
          case measure => simp [intOf] <;> omega
        · have hxe : (ba x).toList.isEmpty = false := by rw [ba_toList]; cases x with | nil => exact absurd rfl he | cons a l => rfl
          have HM := Lib.hid (show kindA s most name = (((k : Nat) : Int), (ws, bad)) by
            rw [HK.out, if_neg he, find_hit hkl (by simpa using hx) (fun i hi => by
              have := HP.out i hi
              simpa [he] using this)])
          rw [hx] at HC
          clear hx he
          go_wp2_with fail
          refine (HC.out).mono ?_
          rintro e w3 ⟨rfl, rfl⟩
          go_wp2_with fail
          go_ret
          exact ⟨by rw [HM.out]; rfl, by rw [HM.out]; exact HR.out, HG.out⟩
      · have hxb := ba_ne hx
        have HP2 := Lib.hid (show ∀ j, j < k + 1 → ¬ (name j = x ∧ ¬ x = []) from fun j hj h => by
          by_cases e : j = k
          · subst e; exact hx h.1
          · exact HP.out j (by omega) h)
        clear hx
        go_wp2_with fail
        refine (HC.out).mono ?_
        rintro e w3 ⟨rfl, rfl⟩
        go_wp2_with fail
        go_round
        case rel => exact ⟨k + 1, by omega, by go_num, HP2.out⟩
        case measure => simp [intOf] <;> omega
    · obtain rfl : k = most := by omega
      have HM := Lib.hid (show kindA s k name = (0, badA (ws, bad) true) by
        rw [HK.out]
        by_cases he : x = []
        · rw [if_pos he]
        · rw [if_neg he, find_none (fun i hi => by
            have := HP.out i hi
            simpa [he] using this)])
      go_wp2_with fail
      go_ret
      exact ⟨by rw [HM.out]; rfl, by rw [HM.out]; simpa [badA] using HR.out.bad true, grown_thenR HG.out (grown_setR _ _ _ _)⟩
end Go.Proofs.Ytlhkjjfdmglabaa
