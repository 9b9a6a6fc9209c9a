/- The contract of trim. -/
import Derived.Test.YtpfeeoogjeobdaaLexWalk
import Derived.Laws.Rows
namespace Go.Proofs.Ytpfeeoogjeobdaa
open Go.RowKit
set_option linter.unusedVariables false

set_option maxRecDepth 100000 in
set_option maxHeartbeats 4000000 in
theorem trim_any (s : ByteArray) (f t : Nat) (w : World) (hs : s.size ≤ 140737488351232) (hft : f ≤ t) (hts : t ≤ s.size) :
    Calls Try.prog 25 #[.string s, .int .i64 f, .int .i64 t] w fun e w' => e = .returned (.agg #[.string (s.extract (headF s f t) (tailF s f t)), .int .i64 (headF s f t : Nat)]) ∧ Below w.heap.size w w' := by
  go_enter Try.func25, Try.ntmps25
  go_wp2_with fail
  go_loop [2, 7] (fun v i => ∃ k : Nat, f ≤ k ∧ k ≤ t ∧ i = .int .i64 k ∧ v = .int .i64 t ∧ scan (slash2 s) (t - 1) k = scan (slash2 s) (t - 1) f) (fun _ i => t - (intOf i).toNat)
  case atStart => exact ⟨f, Nat.le_refl _, hft, rfl, rfl, rfl⟩
  case round =>
    obtain ⟨k, hfk, hkt, rfl, rfl, hsc⟩ := hrel
    have HS := Lib.hid hsc
    clear hsc
    by_cases hlt : k + 1 < t
    · have hk1 : k + 1 < s.size := by omega
      have hk0 : k < s.size := by omega
      have hlt' : (k : Int) + 1 < t := by omega
      have HQ0 := Lib.hid (bt_eq hk0)
      have HQ1 := Lib.hid (bt_eq hk1)
      cases h0 : ((s[k].toNat : Int) == 47) <;> cases h1 : ((s[k + 1].toNat : Int) == 47)
      case true.true =>
        have HC := Lib.hid (show cutF s f t = k from by
          have e : scan (slash2 s) (t - 1) f = k := by rw [← HS.out]; exact scan_hit (by omega) (by unfold slash2; rw [HQ0.out, HQ1.out, h0, h1]; rfl)
          unfold cutF; rw [e, if_pos hlt])
        clear HS
        have HFB := Lib.hid (show f ≤ k from by rw [← HC.out]; exact (cutF_bd s f t hft).1)
        have HH0 := Lib.hid (show scan (solidB s) k f = headF s f t from by unfold headF; rw [HC.out])
        have ht1s : k ≤ s.size := by have := (cutF_bd s f t hft).2; rw [HC.out] at this; omega
        go_wp2_with fail
        have hfk : f ≤ k := HFB.out
        go_loop [1] (fun v => ∃ a : Nat, f ≤ a ∧ a ≤ k ∧ v = .int .i64 a ∧ scan (solidB s) k a = headF s f t) (fun v => k - (intOf v).toNat)
        case atStart => exact ⟨f, Nat.le_refl _, hfk, rfl, HH0.out⟩
        case round =>
          obtain ⟨a, hfa, hat, rfl, hsc⟩ := hrel
          have HS := Lib.hid hsc
          clear hsc
          by_cases hlt : a < k
          · have has : a < s.size := by omega
            have HQ := Lib.hid (bt_eq has)
            cases hb : blankB (s[a].toNat : Int)
            · have HA := Lib.hid (show headF s f t = a from by rw [← HS.out]; exact scan_hit hlt (by unfold solidB; rw [HQ.out, hb]; rfl))
              have HT0 := Lib.hid (show back (fun k => blankB (bt s k)) a k = tailF s f t from by unfold tailF; rw [HA.out, HC.out])
              have HAB := Lib.hid hat
              clear HS
              go_wp2_with (go_at_call 17; refine (blank_any _ _).mono ?_; rintro e w' ⟨rfl, rfl⟩)
              have hak : a ≤ k := HAB.out
              go_loop [2] (fun v => ∃ e : Nat, a ≤ e ∧ e ≤ k ∧ v = .int .i64 e ∧ back (fun k => blankB (bt s k)) a e = tailF s f t) (fun v => (intOf v).toNat)
              case atStart => exact ⟨k, hak, Nat.le_refl _, rfl, HT0.out⟩
              case round =>
                obtain ⟨e, hae, het, rfl, hbk⟩ := hrel
                have HK := Lib.hid hbk
                clear hbk
                by_cases hlt : a < e
                · obtain ⟨q, rfl⟩ : ∃ q, e = q + 1 := ⟨e - 1, by omega⟩
                  have hqs : q < s.size := by omega
                  have hlt' : (a : Int) < (q : Int) + 1 := by omega
                  have HQ := Lib.hid (bt_eq hqs)
                  cases hb : blankB (s[q].toNat : Int)
                  · have HT := Lib.hid (show tailF s f t = q + 1 from by rw [← HK.out]; exact back_miss hlt (by simp only [Nat.add_sub_cancel]; rw [HQ.out]; exact hb))
                    clear HK
                    have HV := Lib.hid (show Ending.returned (.agg #[.string (s.extract a (q + 1)), .int .i64 (a : Nat)]) = Ending.returned (.agg #[.string (s.extract (headF s f t) (tailF s f t)), .int .i64 (headF s f t : Nat)]) from by rw [HA.out, HT.out])
                    have HN := Lib.hid (show (w.alloc (.cells #[.string (s.extract a (q + 1)), .int .i64 (a : Nat)] 30)).heap[w.heap.size]? = some (.cells #[.string (s.extract a (q + 1)), .int .i64 (a : Nat)] 30 (0, 0)) from heap_alloc_new w _)
                    go_wp2_with (go_at_call 17; refine (blank_any _ _).mono ?_; rintro e w' ⟨rfl, rfl⟩)
                    exact bodyPost_ret (results_cell_row rfl _ _ w.heap.size 30 #[.string (s.extract a (q + 1)), .int .i64 (a : Nat)] (0, 0) _ rfl HN.out Try.underlying30 rfl (by kernel_rfl)) rfl ⟨HV.out, below_alloc (Below.refl _ _) _⟩
                  · have HK2 := Lib.hid (show back (fun k => blankB (bt s k)) a q = tailF s f t from by rw [← HK.out]; exact (back_hit hlt (by simp only [Nat.add_sub_cancel]; rw [HQ.out]; exact hb)).symm)
                    clear HK
                    go_wp2_with (go_at_call 17; refine (blank_any _ _).mono ?_; rintro e w' ⟨rfl, rfl⟩)
                    go_round
                    case rel => exact ⟨q, by omega, by omega, by go_num, HK2.out⟩
                    case measure => simp [intOf]
                · obtain rfl : e = a := by omega
                  have HT := Lib.hid (show tailF s f t = e from by rw [← HK.out]; exact back_stop (by omega))
                  clear HK hlt
                  have HV := Lib.hid (show Ending.returned (.agg #[.string (ByteArray.empty), .int .i64 (e : Nat)]) = Ending.returned (.agg #[.string (s.extract (headF s f t) (tailF s f t)), .int .i64 (headF s f t : Nat)]) from by rw [HA.out, HT.out, show s.extract e e = ByteArray.empty by simp])
                  have HN := Lib.hid (show (w.alloc (.cells #[.string (ByteArray.empty), .int .i64 (e : Nat)] 30)).heap[w.heap.size]? = some (.cells #[.string (ByteArray.empty), .int .i64 (e : Nat)] 30 (0, 0)) from heap_alloc_new w _)
                  go_wp2_with (go_at_call 17; refine (blank_any _ _).mono ?_; rintro e w' ⟨rfl, rfl⟩)
                  exact bodyPost_ret (results_cell_row rfl _ _ w.heap.size 30 #[.string (ByteArray.empty), .int .i64 (e : Nat)] (0, 0) _ rfl HN.out Try.underlying30 rfl (by kernel_rfl)) rfl ⟨HV.out, below_alloc (Below.refl _ _) _⟩
            · have HS2 := Lib.hid (show scan (solidB s) k (a + 1) = headF s f t from by rw [← HS.out]; exact (scan_miss hlt (by unfold solidB; rw [HQ.out, hb]; rfl)).symm)
              clear HS
              go_wp2_with (go_at_call 17; refine (blank_any _ _).mono ?_; rintro e w' ⟨rfl, rfl⟩)
              go_round
              case rel => exact ⟨a + 1, by omega, by omega, by go_num, HS2.out⟩
              case measure => simp [intOf]; omega
          · have hlt' : (k : Int) ≤ a := by omega
            have HA := Lib.hid (show headF s f t = a from by rw [← HS.out]; exact scan_stop (by omega))
            have HT0 := Lib.hid (show back (fun k => blankB (bt s k)) a k = tailF s f t from by unfold tailF; rw [HA.out, HC.out])
            have HAB := Lib.hid hat
            clear HS hlt
            go_wp2_with (go_at_call 17; refine (blank_any _ _).mono ?_; rintro e w' ⟨rfl, rfl⟩)
            have hak : a ≤ k := HAB.out
            go_loop [2] (fun v => ∃ e : Nat, a ≤ e ∧ e ≤ k ∧ v = .int .i64 e ∧ back (fun k => blankB (bt s k)) a e = tailF s f t) (fun v => (intOf v).toNat)
            case atStart => exact ⟨k, hak, Nat.le_refl _, rfl, HT0.out⟩
            case round =>
              obtain ⟨e, hae, het, rfl, hbk⟩ := hrel
              have HK := Lib.hid hbk
              clear hbk
              by_cases hlt : a < e
              · exfalso; omega
              · obtain rfl : e = a := by omega
                have HT := Lib.hid (show tailF s f t = e from by rw [← HK.out]; exact back_stop (by omega))
                clear HK hlt
                have HV := Lib.hid (show Ending.returned (.agg #[.string (ByteArray.empty), .int .i64 (e : Nat)]) = Ending.returned (.agg #[.string (s.extract (headF s f t) (tailF s f t)), .int .i64 (headF s f t : Nat)]) from by rw [HA.out, HT.out, show s.extract e e = ByteArray.empty by simp])
                have HN := Lib.hid (show (w.alloc (.cells #[.string (ByteArray.empty), .int .i64 (e : Nat)] 30)).heap[w.heap.size]? = some (.cells #[.string (ByteArray.empty), .int .i64 (e : Nat)] 30 (0, 0)) from heap_alloc_new w _)
                go_wp2_with (go_at_call 17; refine (blank_any _ _).mono ?_; rintro e w' ⟨rfl, rfl⟩)
                exact bodyPost_ret (results_cell_row rfl _ _ w.heap.size 30 #[.string (ByteArray.empty), .int .i64 (e : Nat)] (0, 0) _ rfl HN.out Try.underlying30 rfl (by kernel_rfl)) rfl ⟨HV.out, below_alloc (Below.refl _ _) _⟩
      all_goals
        have HS2 := Lib.hid (show scan (slash2 s) (t - 1) (k + 1) = scan (slash2 s) (t - 1) f from by rw [← HS.out]; exact (scan_miss (by omega) (by unfold slash2; rw [HQ0.out, HQ1.out, h0, h1]; rfl)).symm)
        clear HS
        go_wp2_with fail
        go_round
        case rel => exact ⟨k + 1, by omega, by omega, by go_num, rfl, HS2.out⟩
        case measure => simp [intOf]; omega
    · have HC := Lib.hid (show cutF s f t = t from by
        have e : scan (slash2 s) (t - 1) f = k := by rw [← HS.out]; exact scan_stop (by omega)
        unfold cutF; rw [e, if_neg hlt])
      have hlt' : (t : Int) ≤ (k : Int) + 1 := by omega
      clear HS hlt
      have HFB := Lib.hid (show f ≤ t from by rw [← HC.out]; exact (cutF_bd s f t hft).1)
      have HH0 := Lib.hid (show scan (solidB s) t f = headF s f t from by unfold headF; rw [HC.out])
      have ht1s : t ≤ s.size := by have := (cutF_bd s f t hft).2; rw [HC.out] at this; omega
      go_wp2_with fail
      have hft : f ≤ t := HFB.out
      go_loop [1] (fun v => ∃ a : Nat, f ≤ a ∧ a ≤ t ∧ v = .int .i64 a ∧ scan (solidB s) t a = headF s f t) (fun v => t - (intOf v).toNat)
      case atStart => exact ⟨f, Nat.le_refl _, hft, rfl, HH0.out⟩
      case round =>
        obtain ⟨a, hfa, hat, rfl, hsc⟩ := hrel
        have HS := Lib.hid hsc
        clear hsc
        by_cases hlt : a < t
        · have has : a < s.size := by omega
          have HQ := Lib.hid (bt_eq has)
          cases hb : blankB (s[a].toNat : Int)
          · have HA := Lib.hid (show headF s f t = a from by rw [← HS.out]; exact scan_hit hlt (by unfold solidB; rw [HQ.out, hb]; rfl))
            have HT0 := Lib.hid (show back (fun k => blankB (bt s k)) a t = tailF s f t from by unfold tailF; rw [HA.out, HC.out])
            have HAB := Lib.hid hat
            clear HS
            go_wp2_with (go_at_call 17; refine (blank_any _ _).mono ?_; rintro e w' ⟨rfl, rfl⟩)
            have hat : a ≤ t := HAB.out
            go_loop [2] (fun v => ∃ e : Nat, a ≤ e ∧ e ≤ t ∧ v = .int .i64 e ∧ back (fun k => blankB (bt s k)) a e = tailF s f t) (fun v => (intOf v).toNat)
            case atStart => exact ⟨t, hat, Nat.le_refl _, rfl, HT0.out⟩
            case round =>
              obtain ⟨e, hae, het, rfl, hbk⟩ := hrel
              have HK := Lib.hid hbk
              clear hbk
              by_cases hlt : a < e
              · obtain ⟨q, rfl⟩ : ∃ q, e = q + 1 := ⟨e - 1, by omega⟩
                have hqs : q < s.size := by omega
                have hlt' : (a : Int) < (q : Int) + 1 := by omega
                have HQ := Lib.hid (bt_eq hqs)
                cases hb : blankB (s[q].toNat : Int)
                · have HT := Lib.hid (show tailF s f t = q + 1 from by rw [← HK.out]; exact back_miss hlt (by simp only [Nat.add_sub_cancel]; rw [HQ.out]; exact hb))
                  clear HK
                  have HV := Lib.hid (show Ending.returned (.agg #[.string (s.extract a (q + 1)), .int .i64 (a : Nat)]) = Ending.returned (.agg #[.string (s.extract (headF s f t) (tailF s f t)), .int .i64 (headF s f t : Nat)]) from by rw [HA.out, HT.out])
                  have HN := Lib.hid (show (w.alloc (.cells #[.string (s.extract a (q + 1)), .int .i64 (a : Nat)] 30)).heap[w.heap.size]? = some (.cells #[.string (s.extract a (q + 1)), .int .i64 (a : Nat)] 30 (0, 0)) from heap_alloc_new w _)
                  go_wp2_with (go_at_call 17; refine (blank_any _ _).mono ?_; rintro e w' ⟨rfl, rfl⟩)
                  exact bodyPost_ret (results_cell_row rfl _ _ w.heap.size 30 #[.string (s.extract a (q + 1)), .int .i64 (a : Nat)] (0, 0) _ rfl HN.out Try.underlying30 rfl (by kernel_rfl)) rfl ⟨HV.out, below_alloc (Below.refl _ _) _⟩
                · have HK2 := Lib.hid (show back (fun k => blankB (bt s k)) a q = tailF s f t from by rw [← HK.out]; exact (back_hit hlt (by simp only [Nat.add_sub_cancel]; rw [HQ.out]; exact hb)).symm)
                  clear HK
                  go_wp2_with (go_at_call 17; refine (blank_any _ _).mono ?_; rintro e w' ⟨rfl, rfl⟩)
                  go_round
                  case rel => exact ⟨q, by omega, by omega, by go_num, HK2.out⟩
                  case measure => simp [intOf]
              · obtain rfl : e = a := by omega
                have HT := Lib.hid (show tailF s f t = e from by rw [← HK.out]; exact back_stop (by omega))
                clear HK hlt
                have HV := Lib.hid (show Ending.returned (.agg #[.string (ByteArray.empty), .int .i64 (e : Nat)]) = Ending.returned (.agg #[.string (s.extract (headF s f t) (tailF s f t)), .int .i64 (headF s f t : Nat)]) from by rw [HA.out, HT.out, show s.extract e e = ByteArray.empty by simp])
                have HN := Lib.hid (show (w.alloc (.cells #[.string (ByteArray.empty), .int .i64 (e : Nat)] 30)).heap[w.heap.size]? = some (.cells #[.string (ByteArray.empty), .int .i64 (e : Nat)] 30 (0, 0)) from heap_alloc_new w _)
                go_wp2_with (go_at_call 17; refine (blank_any _ _).mono ?_; rintro e w' ⟨rfl, rfl⟩)
                exact bodyPost_ret (results_cell_row rfl _ _ w.heap.size 30 #[.string (ByteArray.empty), .int .i64 (e : Nat)] (0, 0) _ rfl HN.out Try.underlying30 rfl (by kernel_rfl)) rfl ⟨HV.out, below_alloc (Below.refl _ _) _⟩
          · have HS2 := Lib.hid (show scan (solidB s) t (a + 1) = headF s f t from by rw [← HS.out]; exact (scan_miss hlt (by unfold solidB; rw [HQ.out, hb]; rfl)).symm)
            clear HS
            go_wp2_with (go_at_call 17; refine (blank_any _ _).mono ?_; rintro e w' ⟨rfl, rfl⟩)
            go_round
            case rel => exact ⟨a + 1, by omega, by omega, by go_num, HS2.out⟩
            case measure => simp [intOf]; omega
        · have hlt' : (t : Int) ≤ a := by omega
          have HA := Lib.hid (show headF s f t = a from by rw [← HS.out]; exact scan_stop (by omega))
          have HT0 := Lib.hid (show back (fun k => blankB (bt s k)) a t = tailF s f t from by unfold tailF; rw [HA.out, HC.out])
          have HAB := Lib.hid hat
          clear HS hlt
          go_wp2_with (go_at_call 17; refine (blank_any _ _).mono ?_; rintro e w' ⟨rfl, rfl⟩)
          have hat : a ≤ t := HAB.out
          go_loop [2] (fun v => ∃ e : Nat, a ≤ e ∧ e ≤ t ∧ v = .int .i64 e ∧ back (fun k => blankB (bt s k)) a e = tailF s f t) (fun v => (intOf v).toNat)
          case atStart => exact ⟨t, hat, Nat.le_refl _, rfl, HT0.out⟩
          case round =>
            obtain ⟨e, hae, het, rfl, hbk⟩ := hrel
            have HK := Lib.hid hbk
            clear hbk
            by_cases hlt : a < e
            · exfalso; omega
            · obtain rfl : e = a := by omega
              have HT := Lib.hid (show tailF s f t = e from by rw [← HK.out]; exact back_stop (by omega))
              clear HK hlt
              have HV := Lib.hid (show Ending.returned (.agg #[.string (ByteArray.empty), .int .i64 (e : Nat)]) = Ending.returned (.agg #[.string (s.extract (headF s f t) (tailF s f t)), .int .i64 (headF s f t : Nat)]) from by rw [HA.out, HT.out, show s.extract e e = ByteArray.empty by simp])
              have HN := Lib.hid (show (w.alloc (.cells #[.string (ByteArray.empty), .int .i64 (e : Nat)] 30)).heap[w.heap.size]? = some (.cells #[.string (ByteArray.empty), .int .i64 (e : Nat)] 30 (0, 0)) from heap_alloc_new w _)
              go_wp2_with (go_at_call 17; refine (blank_any _ _).mono ?_; rintro e w' ⟨rfl, rfl⟩)
              exact bodyPost_ret (results_cell_row rfl _ _ w.heap.size 30 #[.string (ByteArray.empty), .int .i64 (e : Nat)] (0, 0) _ rfl HN.out Try.underlying30 rfl (by kernel_rfl)) rfl ⟨HV.out, below_alloc (Below.refl _ _) _⟩
end Go.Proofs.Ytpfeeoogjeobdaa
