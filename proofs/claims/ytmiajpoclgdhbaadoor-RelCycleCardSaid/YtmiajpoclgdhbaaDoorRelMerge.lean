/- Union, Inter, Minus: one walk for the three. -/
import Derived.Test.YtmiajpoclgdhbaaDoorRelClosP
import Derived.Laws.BitsAllLaws
namespace Go.Proofs.YtmiajpoclgdhbaaDoor
open Go.RowKit
set_option linter.unusedVariables false

/-- Word by word: as far as the word j. -/
def mixTo (f : Nat → Nat → Nat) (ws ws2 : List Nat) (j : Nat) : List Nat := (List.range ws.length).map fun i => if i < j then f (ws.getD i 0) (ws2.getD i 0) else ws.getD i 0
theorem mixTo_len (f : Nat → Nat → Nat) (ws ws2 : List Nat) (j : Nat) : (mixTo f ws ws2 j).length = ws.length := by simp [mixTo]
theorem mixTo_zero (f : Nat → Nat → Nat) (ws ws2 : List Nat) : mixTo f ws ws2 0 = ws := by
  unfold mixTo
  apply List.ext_getElem
  · simp
  · intro i h1 h2
    simp [List.getD_eq_getElem?_getD, h2]
theorem mixTo_step (f : Nat → Nat → Nat) (ws ws2 : List Nat) (j : Nat) (hj : j < ws.length) : (mixTo f ws ws2 j).set j (f (ws.getD j 0) (ws2.getD j 0)) = mixTo f ws ws2 (j + 1) := by
  unfold mixTo
  apply List.ext_getElem
  · simp
  · intro i h1 h2
    rw [List.getElem_set]
    simp only [List.getElem_map, List.getElem_range]
    by_cases e : j = i
    · subst e; rw [if_pos rfl, if_pos (by omega)]
    · rw [if_neg e]
      by_cases h : i < j
      · rw [if_pos h, if_pos (by omega)]
      · rw [if_neg h, if_neg (by omega)]
theorem mixTo_getD (f : Nat → Nat → Nat) (ws ws2 : List Nat) (j i : Nat) (hi : i < ws.length) : (mixTo f ws ws2 j).getD i 0 = if i < j then f (ws.getD i 0) (ws2.getD i 0) else ws.getD i 0 := by
  unfold mixTo
  simp [List.getD_eq_getElem?_getD, hi]
theorem mix_has {n : Nat} {ws ws2 : List Nat} {f : Nat → Nat → Nat} {g : Bool → Bool → Bool} (hl : ws.length = 2 * n) (hf : ∀ x y i, x < 18446744073709551616 → y < 18446744073709551616 → i < 64 → (f x y).testBit i = g (x.testBit i) (y.testBit i)) (l1 : ∀ j, ws.getD j 0 < 18446744073709551616) (l2 : ∀ j, ws2.getD j 0 < 18446744073709551616) (a b : Nat) (ha : a < n) (hb : b < 128) :
    hasB (mixTo f ws ws2 (n * 2)) a b = g (hasB ws a b) (hasB ws2 a b) := by
  unfold hasB
  rw [mixTo_getD _ _ _ _ _ (by omega), if_pos (by omega), hf _ _ _ (l1 _) (l2 _) (by omega)]
theorem mix_says {n : Nat} {ws ws2 : List Nat} {T U : Nat → Nat → Bool} {f : Nat → Nat → Nat} {g : Bool → Bool → Bool} (hl : ws.length = 2 * n) (hf : ∀ x y i, x < 18446744073709551616 → y < 18446744073709551616 → i < 64 → (f x y).testBit i = g (x.testBit i) (y.testBit i)) (l1 : ∀ j, ws.getD j 0 < 18446744073709551616) (l2 : ∀ j, ws2.getD j 0 < 18446744073709551616) (hg : g false false = false) (hn : n ≤ 128)
    (h : Says n ws T) (h2 : Says n ws2 U) : Says n (mixTo f ws ws2 (n * 2)) fun a b => g (T a b) (U a b) := by
  refine ⟨fun a ha b hb => ?_, fun a ha b hb hh => ?_⟩
  · rw [mix_has (n := n) hl hf l1 l2 a b ha (by omega), h.1 a ha b hb, h2.1 a ha b hb]
  · rw [mix_has (n := n) hl hf l1 l2 a b ha hb] at hh
    cases e : hasB ws a b
    · cases e2 : hasB ws2 a b
      · rw [e, e2, hg] at hh; cases hh
      · exact h2.2 a ha b hb e2
    · exact h.2 a ha b hb e

/-- What a word's function answers. -/
def Mixes (P : Program) (f : FuncId) (g : Nat → Nat → Nat) : Prop := ∀ (x y : Nat) (w : World), x < 18446744073709551616 → y < 18446744073709551616 → g x y < 18446744073709551616 ∧ Calls P f #[.int .u64 x, .int .u64 y] w fun e w' => e = .returned (.int .u64 (g x y : Nat)) ∧ w' = w

set_option maxRecDepth 100000 in
set_option maxHeartbeats 4000000 in
theorem relmerge_any (h g n h2 g2 : Nat) (ws ws2 : List Nat) (w : World) (r : RelAt w h g n ws) (r2 : RelAt w h2 g2 n ws2) (hn : n ≤ 128) (f : FuncId) (o : Nat → Nat → Nat) (hf : Mixes Tryd.prog f o) (hcf : ∀ args w, (callFunc f args).run Tryd.prog w = .ok (.enter f args) w) :
    Calls Tryd.prog 50 #[.pointer (some ⟨h, 0, none⟩), .pointer (some ⟨h2, 0, none⟩), .func (.func f) #[] #[]] w fun e w' => ∃ h' g', w.heap.size ≤ h' ∧ w.heap.size ≤ g' ∧ e = .returned (.tuple #[.pointer (some ⟨h', 0, none⟩), .int .i64 0]) ∧ RelAt w' h' g' n (mixTo o ws ws2 (n * 2)) ∧ Below w.heap.size w w' := by
  have HR := Lib.hid r
  have HR2 := Lib.hid r2
  have HF := Lib.hid hf
  obtain ⟨_, _, ⟨c0, hc0, hBl⟩, _⟩ := r
  obtain ⟨_, _, ⟨c2, hc2, hBl2⟩, _⟩ := r2
  have HBL := Lib.hid hBl
  have HBL2 := Lib.hid hBl2
  have hb0 : w.cell? ⟨h, 0, none⟩ = some (.slice (some ⟨g, 0, none⟩) n c0) := hBl.cell 0
  have hb2 : w.cell? ⟨h2, 0, none⟩ = some (.slice (some ⟨g2, 0, none⟩) n c2) := hBl2.cell 0
  clear hBl hBl2 hf
  go_enter Tryd.func50, Tryd.ntmps50
  go_wp2_with fail
  go_quiet (fail)
  have HC := Lib.hid (relcopy_any h g n ws (w.drewN nq) (HR.out.dn nq) hn)
  clear hb0 hb2
  go_wp2_with fail
  refine (HC.out).mono ?_
  rintro e w1 ⟨h', g', hh, hg, rfl, hr, hb⟩
  have HX := Lib.hid hr
  have HB := Lib.hid (show Below w.heap.size w w1 from ⟨hb.os, hb.tape, hb.output, hb.size, hb.block⟩)
  obtain ⟨hgh, hlx, ⟨c9, hc9, hBl9⟩, _⟩ := hr
  have hc0' : w1.cell? ⟨h', 0, none⟩ = some (.slice (some ⟨g', 0, none⟩) n c9) := hBl9.cell 0
  have HB9 := Lib.hid hBl9
  clear HC hBl9 hb
  go_wp2_with fail
  clear hc0'
  have HX := Lib.hid (show RelAt w1 h' g' n (mixTo o ws ws2 (0 * 2)) from by rw [Nat.zero_mul, mixTo_zero]; exact HX.out)
  go_loopw [29] (fun i wr => ∃ k : Nat, k ≤ n ∧ i = .int .i64 k ∧ RelAt wr h' g' n (mixTo o ws ws2 (k * 2)) ∧ Blk wr 64 h' [.slice (some ⟨g', 0, none⟩) n c9] ∧ Below w.heap.size w wr) (fun i _ => n - (intOf i).toNat)
  case atStart => exact ⟨0, by omega, rfl, HX.out, HB9.out, HB.out⟩
  case round =>
    clear HX HB9 HB
    obtain ⟨k, hk, rfl, hX, hBl, hB⟩ := hrel
    obtain ⟨wo, rfl⟩ : ∃ wo : World, wo = wr := ⟨_, rfl⟩
    by_cases hlt : k < n
    · have HX := Lib.hid hX
      have HBl := Lib.hid hBl
      have HB := Lib.hid hB
      clear hX hBl hB
      have hki : (0 : Int) ≤ k := by omega
      have hk2 : (k : Int) < n := by omega
      go_wp2_with fail
      go_loopw [32] (fun i wr => ∃ j : Nat, j ≤ 2 ∧ i = .int .i64 j ∧ RelAt wr h' g' n (mixTo o ws ws2 (k * 2 + j)) ∧ Blk wr 64 h' [.slice (some ⟨g', 0, none⟩) n c9] ∧ Below w.heap.size w wr) (fun i _ => 2 - (intOf i).toNat)
      case atStart => exact ⟨0, by omega, rfl, HX.out, HBl.out, HB.out⟩
      case round =>
        clear HX HBl HB
        obtain ⟨j, hj, rfl, hX, hBl, hB⟩ := hrel
        obtain ⟨wi, rfl⟩ : ∃ wi : World, wi = wr := ⟨_, rfl⟩
        by_cases hlj : j < 2
        · have hc0 : wi.cell? ⟨h', 0, none⟩ = some (.slice (some ⟨g', 0, none⟩) n c9) := hBl.cell 0
          have e1 : wi.cell? ⟨h, 0, none⟩ = some (.slice (some ⟨g, 0, none⟩) n c0) := (HBL.out.below hB).cell 0
          have e2 : wi.cell? ⟨h2, 0, none⟩ = some (.slice (some ⟨g2, 0, none⟩) n c2) := (HBL2.out.below hB).cell 0
          have hr1 := HR.out.below hB
          have hr2 := HR2.out.below hB
          have l1 := hr1.len
          have d1 := hr1.2.2.2.cell (j := k * 2 + j) (by omega)
          have d2 := hr2.2.2.2.cell (j := k * 2 + j) (by have := hr2.len; omega)
          have m1 := hr1.2.2.2.wlt (k * 2 + j)
          have m2 := hr2.2.2.2.wlt (k * 2 + j)
          have l9 := hX.len
          have HST := Lib.hid (mixTo_step o ws ws2 (k * 2 + j) (by omega))
          have hfr := hX.2.2.2.free (k * 2 + j)
          have dx := hX.2.2.2.cell (j := k * 2 + j) (by rw [mixTo_len]; omega)
          have HC := HF.out (ws.getD (k * 2 + j) 0) (ws2.getD (k * 2 + j) 0) (wi.drewN 1) m1 m2
          have HSET := Lib.hid (hX.2.2.2.set (j := k * 2 + j) (by rw [mixTo_len] at l9; rw [mixTo_len]; omega) _ HC.1)
          have HC := Lib.hid HC.2
          have HX := Lib.hid hX
          have HBl := Lib.hid hBl
          have HB := Lib.hid hB
          clear hr1 hr2 hX hBl hB
          have HLN := Lib.hid (show ((mixTo o ws ws2 (k * 2 + j)).set (k * 2 + j) (o (ws.getD (k * 2 + j) 0) (ws2.getD (k * 2 + j) 0))).length = (mixTo o ws ws2 (k * 2 + j)).length from by simp)
          have HX2 := Lib.hid (HX.out.put HLN.out HSET.out (grown_set wi ⟨g', k * 2 + j, none⟩ _))
          rw [HST.out] at HX2
          have hnb : h' ≠ g' := fun e => hgh e.symm
          have HBl2 := Lib.hid (HBl.out.other (p := ⟨g', k * 2 + j, none⟩) hnb (.int .u64 (o (ws.getD (k * 2 + j) 0) (ws2.getD (k * 2 + j) 0) : Nat)))
          have HB2 := Lib.hid (HB.out.setCell (p := ⟨g', k * 2 + j, none⟩) (by have := hg; simp only [World.drewN] at this; exact this) (.int .u64 (o (ws.getD (k * 2 + j) 0) (ws2.getD (k * 2 + j) 0) : Nat)))
          clear HX HBl HB HLN HST HSET
          generalize (mixTo o ws ws2 (k * 2 + j)).getD (k * 2 + j) 0 = oldx at *
          generalize o (ws.getD (k * 2 + j) 0) (ws2.getD (k * 2 + j) 0) = z at *
          generalize ws.getD (k * 2 + j) 0 = x at *
          generalize ws2.getD (k * 2 + j) 0 = y at *
          have hj0 : (0 : Int) ≤ j := by omega
          have hj2 : (j : Int) < 2 := by omega
          go_wp2_with fail
          refine region_tail 28 (by kernel_rfl) (by kernel_rfl) ?_
          simp only [List.take_succ_cons, List.take_zero, List.drop_succ_cons, List.drop_zero]
          repeat still_step
          have HC1 := Lib.hid (show Calls Tryd.prog f #[.int .u64 (x : Nat), .int .u64 (y : Nat)] wi.drew fun e w' => e = .returned (.int .u64 (z : Nat)) ∧ w' = wi.drew from HC.out)
          still_call HC1.out
          repeat still_step
          refine wpStill_nil ?_
          go_wp2_with fail
          go_roundw
          case rel => exact ⟨j + 1, by omega, by go_num, HX2.out.dn 1, HBl2.out.dn 1, below_drewN HB2.out 1⟩
          case measure => simp [intOf]; omega
        · obtain rfl : j = 2 := by omega
          have HX := Lib.hid hX
          have HBl := Lib.hid hBl
          have HB := Lib.hid hB
          clear hX hBl hB
          go_wp2_with fail
          go_roundw
          case rel => exact ⟨k + 1, by omega, by go_num, by rw [Nat.add_mul, Nat.one_mul]; exact HX.out, HBl.out, HB.out⟩
          case measure => simp [intOf]; omega
    · obtain rfl : k = n := by omega
      have HX := Lib.hid hX
      have HB := Lib.hid hB
      clear hX hBl hB
      go_wp2_with fail
      go_ret2
      exact ⟨h', g', hh, hg, rfl, HX.out, HB.out⟩
theorem grown_drew_below {a w w' : World} {n : Nat} (hb : Below (w.drewN n).heap.size (w.drewN n) w') : Below w.heap.size w w' := ⟨hb.os, hb.tape, hb.output, hb.size, hb.block⟩
theorem or_mixes : Mixes Tryd.prog 51 (· ||| ·) := by
  intro x y w hx hy
  refine ⟨or_lt x y hx hy, ?_⟩
  have HO := Lib.hid (or_words x y hx hy)
  go_enter Tryd.func51, Tryd.ntmps51
  go_wp2_with fail
  go_ret
  exact ⟨ret_int HO.out, rfl⟩
theorem and_mixes : Mixes Tryd.prog 60 (· &&& ·) := by
  intro x y w hx hy
  refine ⟨Nat.lt_of_le_of_lt Nat.and_le_left hx, ?_⟩
  have HO := Lib.hid (bits_and_u64_nat x y hx hy)
  go_enter Tryd.func60, Tryd.ntmps60
  go_wp2_with fail
  go_ret
  exact ⟨ret_int HO.out, rfl⟩
theorem not_mixes : Mixes Tryd.prog 61 (fun x y => x &&& (18446744073709551615 - y)) := by
  intro x y w hx hy
  refine ⟨Nat.lt_of_le_of_lt Nat.and_le_left hx, ?_⟩
  have HO := Lib.hid (u64_andNot_nat x y hx hy)
  go_enter Tryd.func61, Tryd.ntmps61
  go_wp2_with fail
  go_ret
  exact ⟨ret_int HO.out, rfl⟩
theorem call_or (args : Array Value) (w : World) : (callFunc 51 args).run Tryd.prog w = .ok (.enter 51 args) w := by
  kernel_rfl
theorem call_and (args : Array Value) (w : World) : (callFunc 60 args).run Tryd.prog w = .ok (.enter 60 args) w := by
  kernel_rfl
theorem call_not (args : Array Value) (w : World) : (callFunc 61 args).run Tryd.prog w = .ok (.enter 61 args) w := by
  kernel_rfl

def unionW (n : Nat) (ws ws2 : List Nat) : List Nat := mixTo (· ||| ·) ws ws2 (n * 2)
def interW (n : Nat) (ws ws2 : List Nat) : List Nat := mixTo (· &&& ·) ws ws2 (n * 2)
def minusW (n : Nat) (ws ws2 : List Nat) : List Nat := mixTo (fun x y => x &&& (18446744073709551615 - y)) ws ws2 (n * 2)
theorem relunion_any (h g n h2 g2 : Nat) (ws ws2 : List Nat) (w : World) (r : RelAt w h g n ws) (r2 : RelAt w h2 g2 n ws2) (hn : n ≤ 128) :
    Calls Tryd.prog 23 #[.pointer (some ⟨h, 0, none⟩), .pointer (some ⟨h2, 0, none⟩)] w fun e w' => ∃ h' g', w.heap.size ≤ h' ∧ w.heap.size ≤ g' ∧ e = .returned (.tuple #[.pointer (some ⟨h', 0, none⟩), .int .i64 0]) ∧ RelAt w' h' g' n (unionW n ws ws2) ∧ Below w.heap.size w w' := by
  have HM := Lib.hid (relmerge_any h g n h2 g2 ws ws2 w r r2 hn 51 _ or_mixes call_or)
  clear r r2
  go_enter Tryd.func23, Tryd.ntmps23
  go_wp2_with fail
  refine (HM.out).mono ?_
  rintro e w1 ⟨h', g', hh, hg, rfl, hr, hb⟩
  have HR := Lib.hid hr
  have HB := Lib.hid hb
  clear hr hb HM
  go_wp2_with fail
  go_ret2
  exact ⟨h', g', hh, hg, rfl, HR.out, HB.out⟩
theorem relinter_any (h g n h2 g2 : Nat) (ws ws2 : List Nat) (w : World) (r : RelAt w h g n ws) (r2 : RelAt w h2 g2 n ws2) (hn : n ≤ 128) :
    Calls Tryd.prog 44 #[.pointer (some ⟨h, 0, none⟩), .pointer (some ⟨h2, 0, none⟩)] w fun e w' => ∃ h' g', w.heap.size ≤ h' ∧ w.heap.size ≤ g' ∧ e = .returned (.tuple #[.pointer (some ⟨h', 0, none⟩), .int .i64 0]) ∧ RelAt w' h' g' n (interW n ws ws2) ∧ Below w.heap.size w w' := by
  have HM := Lib.hid (relmerge_any h g n h2 g2 ws ws2 w r r2 hn 60 _ and_mixes call_and)
  clear r r2
  go_enter Tryd.func44, Tryd.ntmps44
  go_wp2_with fail
  refine (HM.out).mono ?_
  rintro e w1 ⟨h', g', hh, hg, rfl, hr, hb⟩
  have HR := Lib.hid hr
  have HB := Lib.hid hb
  clear hr hb HM
  go_wp2_with fail
  go_ret2
  exact ⟨h', g', hh, hg, rfl, HR.out, HB.out⟩
theorem relminus_any (h g n h2 g2 : Nat) (ws ws2 : List Nat) (w : World) (r : RelAt w h g n ws) (r2 : RelAt w h2 g2 n ws2) (hn : n ≤ 128) :
    Calls Tryd.prog 45 #[.pointer (some ⟨h, 0, none⟩), .pointer (some ⟨h2, 0, none⟩)] w fun e w' => ∃ h' g', w.heap.size ≤ h' ∧ w.heap.size ≤ g' ∧ e = .returned (.tuple #[.pointer (some ⟨h', 0, none⟩), .int .i64 0]) ∧ RelAt w' h' g' n (minusW n ws ws2) ∧ Below w.heap.size w w' := by
  have HM := Lib.hid (relmerge_any h g n h2 g2 ws ws2 w r r2 hn 61 _ not_mixes call_not)
  clear r r2
  go_enter Tryd.func45, Tryd.ntmps45
  go_wp2_with fail
  refine (HM.out).mono ?_
  rintro e w1 ⟨h', g', hh, hg, rfl, hr, hb⟩
  have HR := Lib.hid hr
  have HB := Lib.hid hb
  clear hr hb HM
  go_wp2_with fail
  go_ret2
  exact ⟨h', g', hh, hg, rfl, HR.out, HB.out⟩

theorem relmerge_bad (h g n h2 g2 n2 : Nat) (ws ws2 : List Nat) (w : World) (r : RelAt w h g n ws) (r2 : RelAt w h2 g2 n2 ws2) (hne : n ≠ n2) (f : Value) :
    Calls Tryd.prog 50 #[.pointer (some ⟨h, 0, none⟩), .pointer (some ⟨h2, 0, none⟩), f] w fun e w' => e = .returned (.tuple #[.pointer none, .int .i64 10]) ∧ ∃ m, w' = w.drewN m := by
  obtain ⟨_, _, ⟨c0, hc0, hBl⟩, _⟩ := r
  obtain ⟨_, _, ⟨c2, hc2, hBl2⟩, _⟩ := r2
  have hb0 : w.cell? ⟨h, 0, none⟩ = some (.slice (some ⟨g, 0, none⟩) n c0) := hBl.cell 0
  have hb2 : w.cell? ⟨h2, 0, none⟩ = some (.slice (some ⟨g2, 0, none⟩) n2 c2) := hBl2.cell 0
  have hnb : ((n : Int) == (n2 : Int)) = false := by simp; omega
  have hnc : ((n : Int) != (n2 : Int)) = true := by simp; omega
  clear hBl hBl2
  go_enter Tryd.func50, Tryd.ntmps50
  go_wp2_with fail
  go_quiet (fail)
  go_wp2_with fail
  go_ret2
  exact ⟨rfl, nq, rfl⟩
theorem relunion_bad (h g n h2 g2 n2 : Nat) (ws ws2 : List Nat) (w : World) (r : RelAt w h g n ws) (r2 : RelAt w h2 g2 n2 ws2) (hne : n ≠ n2) :
    Calls Tryd.prog 23 #[.pointer (some ⟨h, 0, none⟩), .pointer (some ⟨h2, 0, none⟩)] w fun e w' => e = .returned (.tuple #[.pointer none, .int .i64 10]) ∧ Below w.heap.size w w' := by
  have HM := Lib.hid (relmerge_bad h g n h2 g2 n2 ws ws2 w r r2 hne (.func (.func 51) #[] #[]))
  clear r r2
  go_enter Tryd.func23, Tryd.ntmps23
  go_wp2_with fail
  refine (HM.out).mono ?_
  rintro e w1 ⟨rfl, m, rfl⟩
  clear HM
  go_wp2_with fail
  go_ret2
  exact ⟨rfl, below_drewN (Below.refl _ _) m⟩
theorem relthen_bad (h g n h2 g2 n2 : Nat) (ws ws2 : List Nat) (w : World) (r : RelAt w h g n ws) (r2 : RelAt w h2 g2 n2 ws2) (hne : n ≠ n2) :
    Calls Tryd.prog 24 #[.pointer (some ⟨h, 0, none⟩), .pointer (some ⟨h2, 0, none⟩)] w fun e w' => e = .returned (.tuple #[.pointer none, .int .i64 10]) ∧ Below w.heap.size w w' := by
  obtain ⟨_, _, ⟨c0, hc0, hBl⟩, _⟩ := r
  obtain ⟨_, _, ⟨c2, hc2, hBl2⟩, _⟩ := r2
  have hb0 : w.cell? ⟨h, 0, none⟩ = some (.slice (some ⟨g, 0, none⟩) n c0) := hBl.cell 0
  have hb2 : w.cell? ⟨h2, 0, none⟩ = some (.slice (some ⟨g2, 0, none⟩) n2 c2) := hBl2.cell 0
  have hnb : ((n : Int) == (n2 : Int)) = false := by simp; omega
  have hnc : ((n : Int) != (n2 : Int)) = true := by simp; omega
  clear hBl hBl2
  go_enter Tryd.func24, Tryd.ntmps24
  go_wp2_with fail
  go_quiet (fail)
  go_wp2_with fail
  go_ret2
  exact ⟨rfl, below_drewN (Below.refl _ _) nq⟩

theorem andnot_bit (x y i : Nat) (hy : y < 18446744073709551616) (hi : i < 64) : (x &&& (18446744073709551615 - y)).testBit i = (x.testBit i && !y.testBit i) := by
  rw [Nat.testBit_and, show 18446744073709551615 - y = 2 ^ 64 - (y + 1) by omega, Nat.testBit_two_pow_sub_succ (by simpa using hy)]
  simp [hi]
theorem union_says {n : Nat} {ws ws2 : List Nat} {T U : Nat → Nat → Bool} (hn : n ≤ 128) (hl : ws.length = 2 * n) (l1 : ∀ j, ws.getD j 0 < 18446744073709551616) (l2 : ∀ j, ws2.getD j 0 < 18446744073709551616) (h : Says n ws T) (h2 : Says n ws2 U) : Says n (unionW n ws ws2) (tUnion T U) :=
  mix_says (g := (· || ·)) hl (fun x y i _ _ _ => Nat.testBit_or ..) l1 l2 rfl hn h h2
theorem inter_says {n : Nat} {ws ws2 : List Nat} {T U : Nat → Nat → Bool} (hn : n ≤ 128) (hl : ws.length = 2 * n) (l1 : ∀ j, ws.getD j 0 < 18446744073709551616) (l2 : ∀ j, ws2.getD j 0 < 18446744073709551616) (h : Says n ws T) (h2 : Says n ws2 U) : Says n (interW n ws ws2) (fun a b => T a b && U a b) :=
  mix_says (g := (· && ·)) hl (fun x y i _ _ _ => Nat.testBit_and ..) l1 l2 rfl hn h h2
theorem minus_says {n : Nat} {ws ws2 : List Nat} {T U : Nat → Nat → Bool} (hn : n ≤ 128) (hl : ws.length = 2 * n) (l1 : ∀ j, ws.getD j 0 < 18446744073709551616) (l2 : ∀ j, ws2.getD j 0 < 18446744073709551616) (h : Says n ws T) (h2 : Says n ws2 U) : Says n (minusW n ws ws2) (tMinus T U) :=
  mix_says (g := fun a b => a && !b) hl (fun x y i _ hy hi => andnot_bit x y i hy hi) l1 l2 rfl hn h h2
end Go.Proofs.YtmiajpoclgdhbaaDoor
