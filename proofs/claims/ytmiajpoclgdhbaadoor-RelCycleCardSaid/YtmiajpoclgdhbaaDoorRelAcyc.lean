/- Acyclic and Irreflexive, of the program and of the document. -/
import Derived.Test.YtmiajpoclgdhbaaDoorRelOrdP
namespace Go.Proofs.YtmiajpoclgdhbaaDoor
open Go.RowKit
set_option linter.unusedVariables false
set_option linter.unusedSimpArgs false

/-- Is nothing related to itself? -/
def looseT (n : Nat) (T : Nat → Nat → Bool) : Bool := (List.range n).all fun x => !T x x
theorem looseT_iff {n : Nat} {T : Nat → Nat → Bool} : looseT n T = true ↔ ∀ x, x < n → T x x = false := by
  unfold looseT
  simp only [List.all_eq_true, List.mem_range]
  exact ⟨fun h x hx => by have := h x hx; simpa using this, fun h x hx => by rw [h x hx]; rfl⟩
theorem looseT_false {n : Nat} {T : Nat → Nat → Bool} {x : Nat} (hx : x < n) (h : T x x = true) : looseT n T = false := by
  cases e : looseT n T
  · rfl
  · rw [looseT_iff.1 e x hx] at h; cases h
theorem looseT_not {n : Nat} {T : Nat → Nat → Bool} (h : looseT n T = false) : ∃ x, x < n ∧ T x x = true := by
  apply Classical.byContradiction
  intro hn
  have : looseT n T = true := looseT_iff.2 fun x hx => by
    cases e : T x x
    · rfl
    · exact absurd ⟨x, hx, e⟩ hn
  rw [this] at h; cases h

set_option maxRecDepth 100000 in
set_option maxHeartbeats 1600000 in
theorem tacyc_any (t n : Nat) (T : Nat → Nat → Bool) (w : World) (h : TabAt w t n T) (hn : n ≤ 1000) :
    Calls Tryd.prog 18 #[.slice (some ⟨t, 0, none⟩) n n] w fun e w' => ∃ U, IsClos n T U ∧ e = .returned (.bool (looseT n U)) ∧ Below w.heap.size w w' := by
  have HC := Lib.hid (tclos_any t n T w h hn)
  clear h
  go_enter Tryd.func18, Tryd.ntmps18
  go_wp2_with fail
  refine (HC.out).mono ?_
  rintro e w1 ⟨t1, U, rfl, ht, hu, hb⟩
  have HU := Lib.hid hu
  have HTA := Lib.hid ht
  have HB := Lib.hid hb
  clear hu ht hb HC
  go_wp2_with fail
  go_loop [4] (fun i => ∃ k : Nat, k ≤ n ∧ i = .int .i64 k ∧ ∀ x, x < k → U x x = false) (fun i => n - (intOf i).toNat)
  case atStart => exact ⟨0, by omega, rfl, fun x hx => by omega⟩
  case round =>
    obtain ⟨k, hk, rfl, hE⟩ := hrel
    by_cases hkl : k < n
    · have hk0 : (0 : Int) ≤ k := by omega
      have hki : (k : Int) < n := by omega
      have t0 := HTA.out.outer hkl
      have t1 := HTA.out.mark hkl hkl
      have HE := Lib.hid hE
      clear hE
      cases hx : U k k
      · rw [hx] at t1
        have HX := Lib.hid hx
        clear hx
        go_wp2_with fail
        go_round
        case rel => exact ⟨k + 1, by omega, by go_num, fun x hx => by
          by_cases e : x = k
          · rw [e]; exact HX.out
          · exact HE.out x (by omega)⟩
        case measure => simp [intOf]; omega
      · rw [hx] at t1
        have HX := Lib.hid (looseT_false hkl hx)
        clear hx
        go_wp2_with fail
        go_ret
        exact ⟨U, HU.out, by rw [HX.out]; rfl, HB.out⟩
    · obtain rfl : k = n := by omega
      have HX := Lib.hid (looseT_iff.2 hE)
      clear hE
      go_wp2_with fail
      go_ret
      exact ⟨U, HU.out, by rw [HX.out]; rfl, HB.out⟩
set_option maxRecDepth 100000 in
set_option maxHeartbeats 1600000 in
theorem loose_any (t n : Nat) (T : Nat → Nat → Bool) (w : World) (h : TabAt w t n T) (hn : n ≤ 1000) :
    Calls Tryd.prog 21 #[.slice (some ⟨t, 0, none⟩) n n] w fun e w' => e = .returned (.bool (looseT n T)) ∧ w' = w := by
  have HTA := Lib.hid h
  clear h
  go_enter Tryd.func21, Tryd.ntmps21
  go_wp2_with fail
  go_loop [3] (fun i => ∃ k : Nat, k ≤ n ∧ i = .int .i64 k ∧ ∀ x, x < k → T x x = false) (fun i => n - (intOf i).toNat)
  case atStart => exact ⟨0, by omega, rfl, fun x hx => by omega⟩
  case round =>
    obtain ⟨k, hk, rfl, hE⟩ := hrel
    by_cases hkl : k < n
    · have hk0 : (0 : Int) ≤ k := by omega
      have hki : (k : Int) < n := by omega
      have t0 := HTA.out.outer hkl
      have t1 := HTA.out.mark hkl hkl
      have HE := Lib.hid hE
      clear hE
      cases hx : T k k
      · rw [hx] at t1
        have HX := Lib.hid hx
        clear hx
        go_wp2_with fail
        go_round
        case rel => exact ⟨k + 1, by omega, by go_num, fun x hx => by
          by_cases e : x = k
          · rw [e]; exact HX.out
          · exact HE.out x (by omega)⟩
        case measure => simp [intOf]; omega
      · rw [hx] at t1
        have HX := Lib.hid (looseT_false hkl hx)
        clear hx
        go_wp2_with fail
        go_ret
        exact ⟨by rw [HX.out]; rfl, rfl⟩
    · obtain rfl : k = n := by omega
      have HX := Lib.hid (looseT_iff.2 hE)
      clear hE
      go_wp2_with fail
      go_ret
      exact ⟨by rw [HX.out]; rfl, rfl⟩
theorem relacyc_any (h g n : Nat) (ws : List Nat) (T R : Nat → Nat → Bool) (w : World) (r : RelAt w h g n ws) (hn : n ≤ 128) (hs : Says n ws T) (hR : IsClos n T R) (hT : TabW w) :
    Calls Tryd.prog 19 #[.pointer (some ⟨h, 0, none⟩)] w fun e w' => e = .returned (.bool (looseT n R)) ∧ Below w.heap.size w w' := by
  have HC := relorder_any h g n ws w r hn (says_wf hs) hT
  unfold OrderPost at HC
  rw [order_eq hn hs] at HC
  cases hz : looseT n R
  · obtain ⟨x, hx, hxx⟩ := looseT_not hz
    rw [torder_none hR hx hxx] at HC
    have HC := Lib.hid HC
    clear r hs hR hT hxx
    go_enter Tryd.func19, Tryd.ntmps19
    go_wp2_with fail
    refine (HC.out).mono ?_
    rintro e w1 ⟨hb, he⟩
    try simp only at he
    subst he
    have HB := Lib.hid hb
    clear hb HC
    go_wp2_with fail
    go_ret
    exact ⟨rfl, HB.out⟩
  · obtain ⟨l, hl, _⟩ := torder_some hR (looseT_iff.1 hz)
    rw [hl] at HC
    have HC := Lib.hid HC
    clear r hs hR hT
    go_enter Tryd.func19, Tryd.ntmps19
    go_wp2_with fail
    refine (HC.out).mono ?_
    rintro e w1 ⟨hb, he⟩
    try simp only at he
    obtain ⟨v, rfl, ho⟩ := he
    have HB := Lib.hid hb
    clear hb HC ho
    go_wp2_with fail
    go_ret
    exact ⟨rfl, HB.out⟩
set_option maxRecDepth 100000 in
set_option maxHeartbeats 1600000 in
theorem relirr_any (h g n : Nat) (ws : List Nat) (w : World) (r : RelAt w h g n ws) (hn : n ≤ 128) :
    Calls Tryd.prog 20 #[.pointer (some ⟨h, 0, none⟩)] w fun e w' => e = .returned (.bool (looseT n (hasB ws))) ∧ w' = w := by
  have HR := Lib.hid r
  obtain ⟨_, _, ⟨c0, hc0, hBl⟩, _⟩ := r
  have hb0 : w.cell? ⟨h, 0, none⟩ = some (.slice (some ⟨g, 0, none⟩) n c0) := hBl.cell 0
  clear hBl
  go_enter Tryd.func20, Tryd.ntmps20
  go_wp2_with fail
  go_loop [9] (fun i => ∃ k : Nat, k ≤ n ∧ i = .int .i64 k ∧ ∀ x, x < k → hasB ws x x = false) (fun i => n - (intOf i).toNat)
  case atStart => exact ⟨0, by omega, rfl, fun x hx => by omega⟩
  case round =>
    obtain ⟨k, hk, rfl, hE⟩ := hrel
    by_cases hkl : k < n
    · have hk0 : (0 : Int) ≤ k := by omega
      have hki : (k : Int) < n := by omega
      have HE := Lib.hid hE
      clear hE
      have HH := Lib.hid (show Calls Tryd.prog 49 #[.pointer (some ⟨g, k * 2, none⟩), .int .i64 (k : Nat)] w (fun e w' => e = .returned (.bool (hasB ws k k)) ∧ w = w') from by
        have := rowhas_any g (k * 2) (ws.getD (k * 2 + k / 64) 0) k w (by omega) (HR.out.2.2.2.wlt _) (HR.out.2.2.2.cell (by have := HR.out.len; omega))
        have e : (ws.getD (k * 2 + k / 64) 0).testBit (k % 64) = hasB ws k k := by unfold hasB; rw [show k * 2 = 2 * k by omega]
        rw [e] at this
        exact this)
      cases hx : hasB ws k k
      · rw [hx] at HH
        have HX := Lib.hid hx
        clear hx
        go_wp2_with fail
        refine (HH.out).mono ?_
        rintro e w1 ⟨rfl, rfl⟩
        go_wp2_with fail
        go_round
        case rel => exact ⟨k + 1, by omega, by go_num, fun x hx => by
          by_cases e : x = k
          · rw [e]; exact HX.out
          · exact HE.out x (by omega)⟩
        case measure => simp [intOf]; omega
      · rw [hx] at HH
        have HX := Lib.hid (looseT_false hkl hx)
        clear hx
        go_wp2_with fail
        refine (HH.out).mono ?_
        rintro e w1 ⟨rfl, rfl⟩
        go_wp2_with fail
        go_ret
        exact ⟨by rw [HX.out]; rfl, rfl⟩
    · obtain rfl : k = n := by omega
      have HX := Lib.hid (looseT_iff.2 hE)
      clear hE
      go_wp2_with fail
      go_ret
      exact ⟨by rw [HX.out]; rfl, rfl⟩
theorem loose_says {n : Nat} {ws : List Nat} {T : Nat → Nat → Bool} (h : Says n ws T) : looseT n (hasB ws) = looseT n T := by
  rw [Bool.eq_iff_iff, looseT_iff, looseT_iff]
  exact ⟨fun k x hx => (h.1 x hx x hx).symm.trans (k x hx), fun k x hx => (h.1 x hx x hx).trans (k x hx)⟩
theorem loose_congr {n : Nat} {T U : Nat → Nat → Bool} (h : ∀ a b, a < n → b < n → T a b = U a b) : looseT n T = looseT n U := by
  rw [Bool.eq_iff_iff, looseT_iff, looseT_iff]
  exact ⟨fun k x hx => (h x x hx hx).symm.trans (k x hx), fun k x hx => (h x x hx hx).trans (k x hx)⟩
end Go.Proofs.YtmiajpoclgdhbaaDoor
