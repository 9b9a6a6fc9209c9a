/- Conditions not too great, and how many parts they have. -/
import Derived.Test.YteepoohcdmjmhaaCondOpen
namespace Go.Proofs.Yteepoohcdmjmhaa
open Go.RowKit
set_option linter.unusedVariables false
set_option linter.unusedSimpArgs false

theorem CT.ind {P : CT → Prop} (h : ∀ k c r a v args, (∀ u ∈ args, P u) → P (.mk k c r a v args)) : ∀ t, P t
  | .mk k c r a v args => h k c r a v args (fun u hu => CT.ind h u)
termination_by t => t
decreasing_by
  have := List.sizeOf_lt_of_mem hu
  simp
  omega
def smallT : Nat → CT → Bool
  | 0, _ => false
  | d + 1, .mk _ _ _ _ _ args => decide (args.length ≤ 6) && args.all (smallT d)
def CT.args : CT → List CT
  | .mk _ _ _ _ _ args => args
/-- The cells of part number j, where they lie. -/
theorem CT.Row.part {w : World} {S : Nat → Prop} {p : Option Addr} {ts : List CT} (h : CT.Row w S p 0 ts) {j : Nat} (hj : j < ts.length) :
    ∃ (g off : Nat) (k c r a v : Int) (q : Option Addr) (l cp : Nat), p = some ⟨g, off, none⟩ ∧ w.cell? ⟨g, off + j * 6, none⟩ = some (.int .i64 k) ∧ w.cell? ⟨g, off + j * 6 + 1, none⟩ = some (.int .i64 c) ∧ w.cell? ⟨g, off + j * 6 + 2, none⟩ = some (.int .i64 r) ∧ w.cell? ⟨g, off + j * 6 + 3, none⟩ = some (.int .u64 a) ∧ w.cell? ⟨g, off + j * 6 + 4, none⟩ = some (.int .u64 v) ∧ w.cell? ⟨g, off + j * 6 + 5, none⟩ = some (.slice q l cp) ∧ CT.At w S ts[j] [.int .i64 k, .int .i64 c, .int .i64 r, .int .u64 a, .int .u64 v, .slice q l cp] := by
  obtain ⟨g, off, es, h1, h2, h3, h4, h5⟩ := h.at_ hj
  have h5' := h5
  generalize ts[j] = u at h5 h5'
  obtain ⟨k, c, r, a, v, args⟩ := u
  unfold CT.At at h5'
  obtain ⟨q, cap, rfl, _⟩ := h5'
  rw [Nat.zero_add] at h4
  exact ⟨g, off, k, c, r, a, v, q, args.length, cap, h1, h4 0 (by omega), h4 1 (by omega), h4 2 (by omega), h4 3 (by omega), h4 4 (by omega), h4 5 (by omega), h5⟩
/-- What a condition's own cells are. -/
theorem CT.At.own {w : World} {S : Nat → Prop} {k c r : Int} {a v : Nat} {args : List CT} {cs : List Value} (h : CT.At w S (.mk k c r a v args) cs) :
    ∃ (p : Option Addr) (cap : Nat), cs = [.int .i64 k, .int .i64 c, .int .i64 r, .int .u64 (a : Nat), .int .u64 (v : Nat), .slice p args.length cap] ∧ args.length ≤ cap ∧ cap ≤ maxLen ∧ a < 18446744073709551616 ∧ (v < 18446744073709551616 ∧ I64 k ∧ I64 c ∧ I64 r) ∧ CT.Row w S p 0 args := by
  unfold CT.At at h
  exact h
theorem CT.Row.below {w w' : World} {S : Nat → Prop} {p : Option Addr} {i : Nat} {ts : List CT} (h : CT.Row w S p i ts) (hb : Below w.heap.size w w') : CT.Row w' S p i ts :=
  CT.Row.keep (fun a v _ hc => (hb.cell (World.block_lt_of_cell? w a hc)).trans hc) p i ts h
/-- The condition's block, made by the call. -/
theorem own_box (w : World) (L : Array Value) : Blk (w.alloc (.cells L 25)) 25 w.heap.size L.toList := by
  have := Blk.new w 25 L.toList
  simpa using this

set_option maxRecDepth 100000 in
set_option maxHeartbeats 1600000 in
theorem csmall_any : ∀ (t : CT) (d : Nat) (x : Int) (w : World) (S : Nat → Prop) (cs : List Value), x = (d : Nat) → d ≤ 1000 → CT.At w S t cs →
    Calls Try.prog 9 #[.agg cs.toArray, .int .i64 x] w fun e w' => e = .returned (.bool (smallT d t)) ∧ Below w.heap.size w w' := by
  intro t
  refine CT.ind (P := fun t => ∀ (d : Nat) (x : Int) (w : World) (S : Nat → Prop) (cs : List Value), x = (d : Nat) → d ≤ 1000 → CT.At w S t cs → Calls Try.prog 9 #[.agg cs.toArray, .int .i64 x] w fun e w' => e = .returned (.bool (smallT d t)) ∧ Below w.heap.size w w') ?_ t
  intro k c r a v args IH d x w S cs hx hd ht
  obtain ⟨p, cap, rfl, h1, h2, h3, h4, h5⟩ := ht.own
  have HI := Lib.hid IH
  have HN := Lib.hid (own_box w #[.int .i64 k, .int .i64 c, .int .i64 r, .int .u64 (a : Nat), .int .u64 (v : Nat), .slice p args.length cap])
  have HB := Lib.hid (show Below w.heap.size w (w.alloc (.cells #[.int .i64 k, .int .i64 c, .int .i64 r, .int .u64 (a : Nat), .int .u64 (v : Nat), .slice p args.length cap] 25)) from below_alloc (Below.refl _ _) _)
  have HR := Lib.hid (h5.below HB.out)
  have HD := Lib.hid (show smallT d (.mk k c r a v args) = smallT d (.mk k c r a v args) from rfl)
  clear ht IH h5
  have hcap : cap ≤ 9223372036854775807 := by unfold maxLen at h2; omega
  cases d with
  | zero =>
    subst hx
    go_enter Try.func9, Try.ntmps9
    go_wp2_with fail
    go_ret
    exact ⟨rfl, HB.out⟩
  | succ d =>
    have hx0 : ¬ x = 0 := by omega
    have hxb : (x == 0) = false := by rw [beq_eq_false_iff_ne]; omega
    by_cases h6 : args.length ≤ 6
    · have hw : IntKind.i64.wrap (x - 1) = x - 1 := IntWalk.i64_in _ (by omega)
      have HX1 := Lib.hid (show x - 1 = (d : Int) by omega)
      have hgt : ¬ (6 : Int) < args.length := by omega
      have hgd : decide ((6 : Int) < args.length) = false := decide_eq_false hgt
      have HW := Lib.hid (show smallT (d + 1) (.mk k c r a v args) = args.all (smallT d) from by rw [smallT]; simp [h6])
      clear HD
      generalize smallT (d + 1) (.mk k c r a v args) = R at *
      clear hx
      go_enter Try.func9, Try.ntmps9
      generalize hW1 : w.alloc (.cells #[.int .i64 k, .int .i64 c, .int .i64 r, .int .u64 (a : Nat), .int .u64 (v : Nat), .slice p args.length cap] 25) = w1 at *
      have c5 := HN.out.cell 5
      simp only [List.getElem?_cons_zero, List.getElem?_cons_succ] at c5
      have hsz : w.heap.size < w1.heap.size := by rw [← hW1]; simp
      have HW1 := Lib.hid hW1
      clear hW1
      go_wp2_with fail
      go_loopw [5] (fun i wr => ∃ j : Nat, j ≤ args.length ∧ i = .int .i64 j ∧ (args.take j).all (smallT d) = true ∧ Below w1.heap.size w1 wr) (fun i _ => args.length - (intOf i).toNat)
      case atStart => exact ⟨0, by omega, rfl, by simp, by rw [HW1.out]; exact Below.refl _ _⟩
      case round =>
        obtain ⟨j, hj, rfl, hall, hb⟩ := hrel
        have HBR := Lib.hid hb
        have HALL := Lib.hid hall
        have c5r := cell_below c5 hb
        clear hb hall
        by_cases hjl : j < args.length
        · have hj0 : (0 : Int) ≤ j := by omega
          have hjn : (j : Int) < args.length := by omega
          obtain ⟨g, off, k', co', rg', ad', va', q', l', cp', rfl, e0, e1, e2, e3, e4, e5, hu⟩ := (HR.out.below HBR.out).part hjl
          have HC := Lib.hid (HI.out _ (List.getElem_mem hjl) d (x - 1) wr S _ HX1.out (by omega) hu)
          have HTK := Lib.hid (show (args.take (j + 1)).all (smallT d) = ((args.take j).all (smallT d) && smallT d args[j]) from by rw [List.take_succ_eq_append_getElem hjl, List.all_append]; simp)
          have HAL := Lib.hid (show smallT d args[j] = false → args.all (smallT d) = false from fun h => by rw [List.all_eq_false]; exact ⟨_, List.getElem_mem hjl, by simp [h]⟩)
          clear hu
          generalize args[j] = u at *
          go_wp2_with fail
          refine (HC.out).mono ?_
          rintro e w4 ⟨rfl, hb4⟩
          have HB4 := Lib.hid (below_trans HBR.out hb4)
          clear hb4
          cases hsm : smallT d u
          · go_wp2_with fail
            go_ret
            exact ⟨by rw [HW.out, HAL.out hsm]; rfl, below_trans HB.out HB4.out⟩
          · go_wp2_with fail
            go_roundw
            case rel => exact ⟨j + 1, by omega, by go_num, by rw [HTK.out, HALL.out, hsm]; rfl, HB4.out⟩
            case measure => simp [intOf]; omega
        · obtain rfl : j = args.length := by omega
          have HF := Lib.hid (show R = true from by rw [HW.out]; have := HALL.out; rwa [List.take_length] at this)
          go_wp2_with fail
          go_ret
          exact ⟨by rw [HF.out]; rfl, below_trans HB.out HBR.out⟩
    · have hgt : (6 : Int) < args.length := by omega
      have HW := Lib.hid (show smallT (d + 1) (.mk k c r a v args) = false from by rw [smallT]; simp [h6])
      go_enter Try.func9, Try.ntmps9
      generalize hW1 : w.alloc (.cells #[.int .i64 k, .int .i64 c, .int .i64 r, .int .u64 (a : Nat), .int .u64 (v : Nat), .slice p args.length cap] 25) = w1 at *
      have c5 := HN.out.cell 5
      simp only [List.getElem?_cons_zero, List.getElem?_cons_succ] at c5
      go_wp2_with fail
      go_ret
      exact ⟨by rw [HW.out]; rfl, HB.out⟩
end Go.Proofs.Yteepoohcdmjmhaa
