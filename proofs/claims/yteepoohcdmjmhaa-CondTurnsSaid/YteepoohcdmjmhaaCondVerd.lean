/- The verdict over outcomes. -/
import Derived.Test.YteepoohcdmjmhaaCondHoldsW
namespace Go.Proofs.Yteepoohcdmjmhaa
open Go.RowKit
set_option linter.unusedVariables false
set_option linter.unusedSimpArgs false

def verdT (fa : Bool) (l : List OU) (t : CT) : Bool := if fa = true then l.all (fun o => holdsT o t) else l.any (fun o => holdsT o t)
theorem verd_hit {fa : Bool} {l : List OU} {t : CT} {j : Nat} (hj : j < l.length) (h : ¬ holdsT l[j] t = fa) : verdT fa l t = !fa := by
  unfold verdT
  cases fa
  · rw [if_neg (by simp)]
    simp only [Bool.not_false, List.any_eq_true]
    exact ⟨l[j], List.getElem_mem hj, by simpa using h⟩
  · rw [if_pos rfl]
    simp only [Bool.not_true, List.all_eq_false]
    exact ⟨l[j], List.getElem_mem hj, by simpa using h⟩
theorem verd_all {fa : Bool} {l : List OU} {t : CT} (h : ∀ o ∈ l, holdsT o t = fa) : verdT fa l t = fa := by
  unfold verdT
  cases fa
  · rw [if_neg (by simp), List.any_eq_false]
    exact fun x hx => by simp [h x hx]
  · rw [if_pos rfl, List.all_eq_true]
    exact fun x hx => h x hx
theorem take_in {α : Type} {l : List α} {j : Nat} {x : α} (hj : j < l.length) (h : x ∈ l.take (j + 1)) : x ∈ l.take j ∨ x = l[j] := by
  rw [List.take_succ_eq_append_getElem hj] at h
  rcases List.mem_append.1 h with h | h
  · exact .inl h
  · exact .inr (List.mem_singleton.1 h)
theorem out_parts {w : World} {o : OU} {cs : List Value} (h : OutAt w o cs) : ∃ (p1 : Option Addr) (n1 c1 : Nat) (p2 : Option Addr) (n2 c2 : Nat) (p3 : Option Addr) (n3 c3 : Nat), cs = [.slice p1 n1 c1, .slice p2 n2 c2, .slice p3 n3 c3] := by
  obtain ⟨p1, c1, p2, c2, p3, c3, h1, _⟩ := h
  exact ⟨p1, _, c1, p2, _, c2, p3, _, c3, h1⟩
set_option maxRecDepth 100000 in
set_option maxHeartbeats 3200000 in
theorem verdict_any (t : CT) (fa : Bool) (l : List OU) (p : Option Addr) (cap : Nat) (hl : l.length ≤ cap) (hc : cap ≤ 9223372036854775807) (w : World) (S : Nat → Prop) (cs : List Value) (ht : CT.At w S t cs) (hp : OutsAt w p l) :
    Calls Try.prog 21 #[.agg cs.toArray, .bool fa, .slice p l.length cap] w fun e w' => e = .returned (.bool (verdT fa l t)) ∧ Below w.heap.size w w' := by
  have H0 := Lib.hid ht
  have HP := Lib.hid hp
  obtain ⟨k, c, r, a, v, args, rfl⟩ : ∃ k c r a v args, t = CT.mk k c r a v args := by obtain ⟨k, c, r, a, v, args⟩ := t; exact ⟨k, c, r, a, v, args, rfl⟩
  obtain ⟨q, qc, rfl, _⟩ := ht.own
  generalize args.length = ln at *
  have HB := Lib.hid (show Below w.heap.size w (w.alloc (.cells #[.int .i64 k, .int .i64 c, .int .i64 r, .int .u64 (a : Nat), .int .u64 (v : Nat), .slice q ln qc] 25)) from below_alloc (Below.refl _ _) _)
  have HN := Lib.hid (own_box w #[.int .i64 k, .int .i64 c, .int .i64 r, .int .u64 (a : Nat), .int .u64 (v : Nat), .slice q ln qc])
  have HT := Lib.hid (H0.out.below HB.out)
  have HP1 := Lib.hid (HP.out.below HB.out)
  clear ht hp H0 HP
  generalize CT.mk k c r a v args = t at *
  have HVH := Lib.hid (fun (j : Nat) (hj : j < l.length) (h : ¬ holdsT l[j] t = fa) => verd_hit hj h)
  have HVA := Lib.hid (fun h => verd_all (fa := fa) (l := l) (t := t) h)
  generalize verdT fa l t = R at *
  obtain ⟨LN, hLN⟩ : ∃ n, l.length = n := ⟨_, rfl⟩
  rw [hLN] at hl ⊢
  obtain ⟨n0, n1, n2, n3, n4, n5⟩ := blk_cells6' HN.out
  go_enter Try.func21, Try.ntmps21
  generalize hW1 : w.alloc (.cells #[.int .i64 k, .int .i64 c, .int .i64 r, .int .u64 (a : Nat), .int .u64 (v : Nat), .slice q ln qc] 25) = w1 at *
  have hsz : w.heap.size < w1.heap.size := by rw [← hW1]; simp
  have HW1 := Lib.hid hW1
  clear hW1
  go_wp2_with fail
  go_loopw [11] (fun i wr => ∃ j : Nat, j ≤ LN ∧ i = .int .i64 j ∧ (∀ o ∈ l.take j, holdsT o t = fa) ∧ Below w1.heap.size w1 wr) (fun i _ => LN - (intOf i).toNat)
  case atStart => exact ⟨0, by omega, rfl, fun o ho => by simp at ho, by rw [HW1.out]; exact Below.refl _ _⟩
  case round =>
    obtain ⟨j, hj, rfl, hall, hb⟩ := hrel
    have HBR := Lib.hid hb
    have HALL := Lib.hid hall
    clear hall
    have n0r := cell_below n0 hb
    have n1r := cell_below n1 hb
    have n2r := cell_below n2 hb
    have n3r := cell_below n3 hb
    have n4r := cell_below n4 hb
    have n5r := cell_below n5 hb
    have hszr : w.heap.size < wr.heap.size := by have := hb.size; omega
    clear hb
    by_cases hjl : j < LN
    · have hj0 : (0 : Int) ≤ j := by omega
      have hjn : (j : Int) < LN := by omega
      have hja : j < l.length := by rw [hLN]; exact hjl
      obtain ⟨g, off, es, rfl, hel, hec, ho⟩ := (HP1.out.below HBR.out) j hja
      have HO := Lib.hid ho
      obtain ⟨p1, N1, c1, p2, N2, c2, p3, N3, c3, rfl⟩ := out_parts ho
      clear ho
      have d0 := hec 0 (by omega)
      have d1 := hec 1 (by omega)
      have d2 := hec 2 (by omega)
      simp only [List.getElem?_cons_zero, List.getElem?_cons_succ, Nat.add_zero] at d0 d1 d2
      have HBA := Lib.hid (below_alloc (Below.refl wr.heap.size wr) (.cells #[.slice p1 N1 c1, .slice p2 N2 c2, .slice p3 N3 c3] 48))
      have HC := Lib.hid (holds_any l[j] t _ _ _ _ ((HT.out.below HBR.out).below HBA.out) (HO.out.below HBA.out))
      have HH := Lib.hid (HVH.out j hja)
      have HIN := Lib.hid (fun (x : OU) (hx : x ∈ l.take (j + 1)) => take_in hja hx)
      clear hel hec
      generalize l[j] = u at *
      go_wp2_with fail
      refine (HC.out).mono ?_
      rintro e w4 ⟨rfl, hb4⟩
      have HB4 := Lib.hid (below_trans (below_trans HBR.out HBA.out) hb4)
      clear hb4
      by_cases hx : holdsT u t = fa
      · rw [hx]
        have HALL2 := Lib.hid (show ∀ o ∈ l.take (j + 1), holdsT o t = fa from fun o ho => by
          rcases HIN.out o ho with h | rfl
          · exact HALL.out o h
          · exact hx)
        go_wp2_with fail
        go_roundw
        case rel => exact ⟨j + 1, by omega, by go_num, HALL2.out, HB4.out⟩
        case measure => simp [intOf]; omega
      · have HX := Lib.hid (HH.out hx)
        generalize holdsT u t = X at *
        have hne : (X != fa) = true := by rw [bne_iff_ne]; exact hx
        have hnb : (X == fa) = false := by rw [beq_eq_false_iff_ne]; exact hx
        go_wp2_with fail
        go_ret
        exact ⟨by rw [HX.out]; rfl, below_trans HB.out HB4.out⟩
    · obtain rfl : j = LN := by omega
      have HX := Lib.hid (HVA.out (fun o ho => HALL.out o (by rw [← hLN, List.take_length]; exact ho)))
      go_wp2_with fail
      go_ret
      exact ⟨by rw [HX.out]; rfl, below_trans HB.out HBR.out⟩
end Go.Proofs.Yteepoohcdmjmhaa
