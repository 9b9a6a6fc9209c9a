/- Same and Closure of the reference. -/
import Derived.Test.YtmiajpoclgdhbaaDoorRelEx
namespace Go.Proofs.YtmiajpoclgdhbaaDoor
open Go.RowKit
set_option linter.unusedVariables false
set_option linter.unusedSimpArgs false

set_option maxRecDepth 100000 in
set_option maxHeartbeats 1600000 in
theorem tsame_any (t u n : Nat) (T U : Nat → Nat → Bool) (w : World) (h : TabAt w t n T) (h2 : TabAt w u n U) (hn : n ≤ 1000) :
    Calls Tryd.prog 58 #[.slice (some ⟨t, 0, none⟩) n n, .slice (some ⟨u, 0, none⟩) n n] w fun e w' => e = .returned (.bool (sameT n T U)) ∧ Below w.heap.size w w' := by
  have HTA := Lib.hid h
  have HUA := Lib.hid h2
  clear h h2
  go_enter Tryd.func58, Tryd.ntmps58
  go_wp2_with fail
  go_loopw [5] (fun i wr => ∃ k : Nat, k ≤ n ∧ i = .int .i64 k ∧ (∀ a, a < k → ∀ b, b < n → T a b = U a b) ∧ Below w.heap.size w wr) (fun i _ => n - (intOf i).toNat)
  case atStart => exact ⟨0, by omega, rfl, fun a ha => by omega, Below.refl _ _⟩
  case round =>
    obtain ⟨i, hi, rfl, hE, hB⟩ := hrel
    obtain ⟨wo, rfl⟩ : ∃ wo : World, wo = wr := ⟨_, rfl⟩
    by_cases hil : i < n
    · have HE := Lib.hid hE
      have HB := Lib.hid hB
      have hi0 : (0 : Int) ≤ i := by omega
      have hii : (i : Int) < n := by omega
      clear hE hB
      go_wp2_with fail
      go_loopw [6] (fun q wr => ∃ k : Nat, k ≤ n ∧ q = .int .i64 k ∧ (∀ b, b < k → T i b = U i b) ∧ Below w.heap.size w wr) (fun q _ => n - (intOf q).toNat)
      case atStart => exact ⟨0, by omega, rfl, fun b hb => by omega, HB.out⟩
      case round =>
        clear HB
        obtain ⟨k, hk, rfl, hI, hB⟩ := hrel
        obtain ⟨wk, rfl⟩ : ∃ wk : World, wk = wr := ⟨_, rfl⟩
        by_cases hkl : k < n
        · have hk0 : (0 : Int) ≤ k := by omega
          have hki : (k : Int) < n := by omega
          have hta := HTA.out.keep hB
          have hua := HUA.out.keep hB
          have t0 := hta.outer hil
          have t1 := hta.mark hil hkl
          have u0 := hua.outer hil
          have u1 := hua.mark hil hkl
          have HB := Lib.hid hB
          have HY := Lib.hid (fun (e : T i k = U i k) => show ∀ b, b < k + 1 → T i b = U i b from fun b hb => by
            by_cases q : b = k
            · rw [q]; exact e
            · exact hI b (by omega))
          have HN := Lib.hid (fun (e : T i k ≠ U i k) => show sameT n T U = false from sameT_false hil hkl e)
          clear hta hua hI hB
          generalize T i k = x at *
          generalize U i k = y at *
          by_cases hxy : x = y
          · have HYY := Lib.hid (HY.out hxy)
            clear HN HY
            subst hxy
            cases x
            all_goals
              go_wp2_with fail
              go_quiet (fail)
              go_wp2_with fail
              go_roundw
              case rel => exact ⟨k + 1, by omega, by go_num, HYY.out, below_drewN HB.out _⟩
              case measure => simp [intOf]; omega
          · have HNN := Lib.hid (HN.out hxy)
            clear HY HN
            cases x <;> cases y
            · exact absurd rfl hxy
            · clear hxy
              go_wp2_with fail
              go_quiet (fail)
              go_wp2_with fail
              go_ret
              exact ⟨by rw [HNN.out]; rfl, below_drewN HB.out _⟩
            · clear hxy
              go_wp2_with fail
              go_quiet (fail)
              go_wp2_with fail
              go_ret
              exact ⟨by rw [HNN.out]; rfl, below_drewN HB.out _⟩
            · exact absurd rfl hxy
        · obtain rfl : k = n := by omega
          have HE2 := Lib.hid (show ∀ a, a < i + 1 → ∀ b, b < k → T a b = U a b from fun a ha b hb => by
            by_cases q : a = i
            · rw [q]; exact hI b hb
            · exact HE.out a (by omega) b hb)
          have HB := Lib.hid hB
          clear hI hB
          go_wp2_with fail
          go_roundw
          case rel => exact ⟨i + 1, by omega, by go_num, HE2.out, HB.out⟩
          case measure => simp [intOf]; omega
    · obtain rfl : i = n := by omega
      have HS := Lib.hid (show sameT i T U = true from sameT_iff.2 hE)
      have HB := Lib.hid hB
      clear hE hB
      go_wp2_with fail
      go_ret
      exact ⟨by rw [HS.out]; rfl, HB.out⟩

open Classical in
/-- The table that a value leads to, as it stands in a world. -/
noncomputable def tabOf (w : World) (v : Value) : Nat → Nat → Bool := fun a b =>
  match v with
  | .slice (some p) _ _ => decide (w.cell? ⟨p.block + 1 + a, b, none⟩ = some (.bool true))
  | _ => false
open Classical in
theorem tabOf_at {w : World} {g n : Nat} {T : Nat → Nat → Bool} (h : TabAt w g n T) (a b : Nat) (ha : a < n) (hb : b < n) : tabOf w (.slice (some ⟨g, 0, none⟩) n n) a b = T a b := by
  unfold tabOf
  rw [Bool.eq_iff_iff, decide_eq_true_iff, h.mark ha hb]
  simp
theorem lacks_congr {n : Nat} {U V : Nat → Nat → Bool} (h : ∀ a b, a < n → b < n → U a b = V a b) : lacks n U = lacks n V := by
  unfold lacks
  apply List.countP_congr
  rintro ⟨a, b⟩ hm
  obtain ⟨ha, hb⟩ := pairsL_mem.1 hm
  show (!U a b) = true ↔ (!V a b) = true
  rw [h a b ha hb]

set_option maxRecDepth 100000 in
set_option maxHeartbeats 1600000 in
theorem tclos_any (t n : Nat) (T : Nat → Nat → Bool) (w : World) (h : TabAt w t n T) (hn : n ≤ 1000) :
    Calls Tryd.prog 37 #[.slice (some ⟨t, 0, none⟩) n n] w fun e w' => ∃ t' U, e = .returned (.slice (some ⟨t', 0, none⟩) n n) ∧ TabAt w' t' n U ∧ IsClos n T U ∧ Below w.heap.size w w' := by
  have HTA := Lib.hid h
  have HC := Lib.hid (tempty_ex n w hn)
  clear h
  go_enter Tryd.func37, Tryd.ntmps37
  go_wp2_with fail
  refine (HC.out).mono ?_
  rintro e w1 ⟨t1, rfl, ht1, hb⟩
  have HB := Lib.hid hb
  have HC := Lib.hid (tunion_ex t t1 n T _ w1 (HTA.out.keep hb) ht1 hn)
  clear hb ht1
  go_wp2_with fail
  refine (HC.out).mono ?_
  rintro e w2 ⟨t2, rfl, ht2, hb⟩
  have HB := Lib.hid (below_trans HB.out hb)
  have HO := Lib.hid (show TabAt w2 t2 n T from ht2.congr fun a b _ _ => by unfold tUnion; rw [Bool.or_false])
  clear hb ht2 HC HTA
  have HW : onWay n T T := ⟨fun a b _ _ h => h, fun a b _ _ h => warT_base T a b h n⟩
  have HW := Lib.hid HW
  go_wp2_with fail
  go_loopw [3, 4] (fun o x wr => ∃ g U, o = .slice (some ⟨g, 0, none⟩) n n ∧ TabAt wr g n U ∧ onWay n T U ∧ Below w.heap.size w wr) (fun o x wr => lacks n (tabOf wr o))
  case atStart => exact ⟨t2, T, rfl, HO.out, HW.out, HB.out⟩
  case round =>
    clear HO HB HW
    obtain ⟨g, U, rfl, hU, hW, hB⟩ := hrel
    obtain ⟨wo, rfl⟩ : ∃ wo : World, wo = wr := ⟨_, rfl⟩
    have HU := Lib.hid hU
    have HW := Lib.hid hW
    have HB := Lib.hid hB
    have HM := Lib.hid (lacks_congr (tabOf_at hU))
    have HC := Lib.hid (tthen_ex g g n U U wo hU hU hn)
    clear hU hW hB
    go_wp2_with fail
    refine (HC.out).mono ?_
    rintro e w3 ⟨t3, rfl, ht3, hb⟩
    have HB := Lib.hid (below_trans HB.out hb)
    have HU := Lib.hid (HU.out.keep hb)
    have HC := Lib.hid (tunion_ex g t3 n U _ w3 HU.out ht3 hn)
    clear hb ht3
    go_wp2_with fail
    refine (HC.out).mono ?_
    rintro e w4 ⟨t4, rfl, ht4, hb⟩
    have HB := Lib.hid (below_trans HB.out hb)
    have HU := Lib.hid (HU.out.keep hb)
    have HV := Lib.hid (show TabAt w4 t4 n (growT n U) from ht4)
    have HC := Lib.hid (tsame_any t4 g n (growT n U) U w4 HV.out HU.out hn)
    clear hb ht4
    obtain ⟨z, hz⟩ : ∃ z, sameT n (growT n U) U = z := ⟨_, rfl⟩
    rw [hz] at HC
    have HZ := Lib.hid hz
    clear hz
    go_wp2_with fail
    refine (HC.out).mono ?_
    rintro e w5 ⟨rfl, hb⟩
    have HB := Lib.hid (below_trans HB.out hb)
    have HU := Lib.hid (HU.out.keep hb)
    have HV := Lib.hid (HV.out.keep hb)
    clear hb HC
    cases z
    · go_wp2_with fail
      go_roundw
      case rel => exact ⟨t4, growT n U, rfl, HV.out, onWay_grow HW.out, HB.out⟩
      case measure =>
        rw [HM.out, lacks_congr (tabOf_at HV.out)]
        exact grow_lt HZ.out
    · go_wp2_with fail
      go_ret
      exact ⟨g, U, rfl, HU.out, onWay_end HW.out HZ.out, HB.out⟩
end Go.Proofs.YtmiajpoclgdhbaaDoor
