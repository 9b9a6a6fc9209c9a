/- Then: its walk. -/
import Derived.Test.YtmiajpoclgdhbaaDoorRelFold
namespace Go.Proofs.YtmiajpoclgdhbaaDoor
open Go.RowKit
set_option linter.unusedVariables false

def thenRow (ws2 : List Nat) (i : Nat) (o : List Nat) (R : List Nat) : List Nat := R.foldl (fun o b => joinTo o (i * 2) (ws2.getD (b * 2) 0) (ws2.getD (b * 2 + 1) 0) 2) o
theorem thenRow_snoc (ws2 : List Nat) (i : Nat) (o R : List Nat) (b : Nat) : thenRow ws2 i o (R ++ [b]) = joinTo (thenRow ws2 i o R) (i * 2) (ws2.getD (b * 2) 0) (ws2.getD (b * 2 + 1) 0) 2 := by simp [thenRow]
theorem thenRow_len (ws2 : List Nat) (i : Nat) (R : List Nat) : ∀ o : List Nat, (thenRow ws2 i o R).length = o.length := by
  induction R with
  | nil => intro o; rfl
  | cons b R ih => intro o; show (thenRow ws2 i (joinTo o _ _ _ 2) R).length = _; rw [ih, joinTo_len]
def thenTo (ws ws2 : List Nat) (n k : Nat) : List Nat := (List.range k).foldl (fun o i => thenRow ws2 i o (rowOf ws i)) (zeros n)
theorem thenTo_succ (ws ws2 : List Nat) (n k : Nat) : thenTo ws ws2 n (k + 1) = thenRow ws2 k (thenTo ws ws2 n k) (rowOf ws k) := by unfold thenTo; rw [fold_succ]
theorem thenTo_len (ws ws2 : List Nat) (n k : Nat) : (thenTo ws ws2 n k).length = 2 * n := by
  induction k with
  | zero => simp [thenTo, zeros]
  | succ k ih => rw [thenTo_succ, thenRow_len, ih]
theorem hasB_join (n : Nat) (o ws2 : List Nat) (i b x y : Nat) (ho : o.length = 2 * n) (hi : i < n) (hy : y < 128) : hasB (joinTo o (i * 2) (ws2.getD (b * 2) 0) (ws2.getD (b * 2 + 1) 0) 2) x y = (hasB o x y || (decide (x = i) && hasB ws2 b y)) := by
  have e : joinTo o (i * 2) (ws2.getD (b * 2) 0) (ws2.getD (b * 2 + 1) 0) 2 = (o.set (i * 2) (o.getD (i * 2) 0 ||| ws2.getD (b * 2) 0)).set (i * 2 + 1) (o.getD (i * 2 + 1) 0 ||| ws2.getD (b * 2 + 1) 0) := rfl
  rw [e]
  unfold hasB
  rw [getD_set, getD_set]
  simp only [List.length_set]
  by_cases h : x = i
  · subst h
    rw [decide_eq_true rfl, Bool.true_and]
    by_cases h1 : y < 64
    · rw [if_neg (by omega), if_pos (by omega), Nat.testBit_or, show 2 * x + y / 64 = x * 2 by omega, show 2 * b + y / 64 = b * 2 by omega]
    · rw [if_pos (by omega), Nat.testBit_or, show 2 * x + y / 64 = x * 2 + 1 by omega, show 2 * b + y / 64 = b * 2 + 1 by omega]
  · rw [if_neg (by omega), if_neg (by omega), decide_eq_false h, Bool.false_and, Bool.or_false]
theorem hasB_thenRow (n : Nat) (ws2 : List Nat) (i x y : Nat) (hi : i < n) (hy : y < 128) (R : List Nat) : ∀ o : List Nat, o.length = 2 * n → hasB (thenRow ws2 i o R) x y = (hasB o x y || (decide (x = i) && R.any fun b => hasB ws2 b y)) := by
  induction R with
  | nil => intro o _; simp [thenRow]
  | cons b R ih =>
    intro o ho
    show hasB (thenRow ws2 i (joinTo o _ _ _ 2) R) x y = _
    rw [ih _ (by rw [joinTo_len]; exact ho), hasB_join n o ws2 i b x y ho hi hy, List.any_cons, Bool.or_assoc]
    cases decide (x = i) <;> simp
theorem hasB_thenTo (n : Nat) (ws ws2 : List Nat) (x y : Nat) (hy : y < 128) : ∀ k, k ≤ n → hasB (thenTo ws ws2 n k) x y = (decide (x < k) && (rowOf ws x).any fun b => hasB ws2 b y) := by
  intro k
  induction k with
  | zero => intro _; show hasB (zeros n) x y = _; rw [hasB_zeros]; simp
  | succ k ih =>
    intro hk
    rw [thenTo_succ, hasB_thenRow n ws2 k x y (by omega) hy _ _ (thenTo_len ws ws2 n k), ih (by omega)]
    by_cases h : x = k
    · subst h
      rw [decide_eq_false (by omega), decide_eq_true rfl, decide_eq_true (show x < x + 1 by omega)]; simp
    · rw [decide_eq_false h]
      rw [show decide (x < k + 1) = decide (x < k) from by rw [decide_eq_decide]; omega]; simp
def thenT (n : Nat) (T U : Nat → Nat → Bool) : Nat → Nat → Bool := fun a b => (List.range n).any fun k => T a k && U k b
theorem then_says {n : Nat} {ws ws2 : List Nat} {T U : Nat → Nat → Bool} (hn : n ≤ 128) (h : Says n ws T) (h2 : Says n ws2 U) : Says n (thenTo ws ws2 n n) (thenT n T U) := by
  have H : ∀ a, a < n → ∀ b, b < 128 → (hasB (thenTo ws ws2 n n) a b = true ↔ b < n ∧ thenT n T U a b = true) := by
    intro a ha b hb
    rw [hasB_thenTo n ws ws2 a b hb n (Nat.le_refl _), decide_eq_true ha, Bool.true_and, List.any_eq_true]
    unfold thenT
    rw [List.any_eq_true]
    constructor
    · rintro ⟨k, hk, he⟩
      obtain ⟨k1, k2⟩ := rowOf_mem hk
      have hkn := h.2 a ha k k1 k2
      have hbn := h2.2 k hkn b hb he
      refine ⟨hbn, k, List.mem_range.2 hkn, ?_⟩
      rw [← h.1 a ha k hkn, k2, ← h2.1 k hkn b hbn, he]; rfl
    · rintro ⟨hbn, k, hk, he⟩
      have hkn := List.mem_range.1 hk
      rw [Bool.and_eq_true] at he
      refine ⟨k, ?_, by rw [h2.1 k hkn b hbn]; exact he.2⟩
      rw [rowOf_filter, List.mem_filter]
      exact ⟨List.mem_range.2 (by omega), by rw [h.1 a ha k hkn]; exact he.1⟩
  refine ⟨fun a ha b hb => ?_, fun a ha b hb hh => ((H a ha b hb).1 hh).1⟩
  rw [Bool.eq_iff_iff, H a ha b (by omega)]
  exact ⟨fun h => h.2, fun h => ⟨hb, h⟩⟩

set_option maxRecDepth 100000 in
set_option maxHeartbeats 4000000 in
theorem relthen_any (h g n h2 g2 : Nat) (ws ws2 : List Nat) (w : World) (r : RelAt w h g n ws) (r2 : RelAt w h2 g2 n ws2) (hn : n ≤ 128) (hwf : WF n ws) (hT : TabW w) :
    Calls Tryd.prog 24 #[.pointer (some ⟨h, 0, none⟩), .pointer (some ⟨h2, 0, none⟩)] w fun e w' => e = .returned (.tuple #[.pointer (some ⟨w.heap.size + 1, 0, none⟩), .int .i64 0]) ∧ RelAt w' (w.heap.size + 1) w.heap.size n (thenTo ws ws2 n n) ∧ Below w.heap.size w w' := by
  have HR := Lib.hid r
  have HR2 := Lib.hid r2
  have HT := Lib.hid hT
  have HWFN := Lib.hid hwf
  obtain ⟨_, _, ⟨c0, hc0, hBl⟩, _⟩ := r
  obtain ⟨_, _, ⟨c2, hc2, hBl2⟩, _⟩ := r2
  have HBL := Lib.hid hBl
  have HBL2 := Lib.hid hBl2
  have hb0 : w.cell? ⟨h, 0, none⟩ = some (.slice (some ⟨g, 0, none⟩) n c0) := hBl.cell 0
  have hb2 : w.cell? ⟨h2, 0, none⟩ = some (.slice (some ⟨g2, 0, none⟩) n c2) := hBl2.cell 0
  clear hBl hBl2 hT hwf
  have hmk := mk_rows n hn
  go_enter Tryd.func24, Tryd.ntmps24
  go_wp2_with fail
  go_quiet (fail)
  have hd0 : (w.drewN nq).cell? ⟨h, 0, none⟩ = some (.slice (some ⟨g, 0, none⟩) n c0) := hb0
  have hba := fun o => cell_alloc hd0 o
  have hba2 := fun o o2 => cell_alloc (cell_alloc hd0 o) o2
  have HN := Lib.hid (rel_laid (w.drewN nq) n)
  have HB := Lib.hid (show Below w.heap.size w (((w.drewN nq).alloc (.cells (madeCells #[.int .u64 0, .int .u64 0] (n * 2)) 67)).alloc (.cells #[.slice (some ⟨(w.drewN nq).heap.size, 0, none⟩) n n] 64)) from below_alloc (below_alloc (below_drewN (Below.refl _ _) nq) _) _)
  go_wp2_with fail
  obtain ⟨w1, hw1⟩ : ∃ w1, w1 = ((w.drewN nq).alloc (.cells (madeCells #[.int .u64 0, .int .u64 0] (n * 2)) 67)).alloc (.cells #[.slice (some ⟨(w.drewN nq).heap.size, 0, none⟩) n n] 64) := ⟨_, rfl⟩
  rw [← hw1] at HN HB
  have hw2 : ((w.drewN nq).alloc (.cells (madeCells #[.int .u64 0, .int .u64 0] (n * 2)) 67)).alloc (.cells #[.slice (some ⟨w.heap.size, 0, none⟩) n n] 64) = w1 := hw1.symm
  rw [hw2]
  have HN := Lib.hid (show RelAt w1 (w.heap.size + 1) w.heap.size n (thenTo ws ws2 n 0) from HN.out)
  clear hw1 hw2 hmk hba hba2 hd0 hb0 hb2
  go_loopw [35] (fun i wr => ∃ k : Nat, k ≤ n ∧ i = .int .i64 k ∧ RelAt wr (w.heap.size + 1) w.heap.size n (thenTo ws ws2 n k) ∧ Below w.heap.size w wr) (fun i _ => n - (intOf i).toNat)
  case atStart => exact ⟨0, by omega, rfl, HN.out, HB.out⟩
  case round =>
    clear HN HB
    obtain ⟨k, hk, rfl, hR, hB⟩ := hrel
    obtain ⟨wo, rfl⟩ : ∃ wo : World, wo = wr := ⟨_, rfl⟩
    by_cases hlt : k < n
    · have hrr := HR.out.below hB
      have hL := hrr.len
      have d0 := hrr.2.2.2.cell (j := k * 2) (by omega)
      have d1 := hrr.2.2.2.cell (j := k * 2 + 1) (by omega)
      have l0 := hrr.2.2.2.wlt (k * 2)
      have l1 := hrr.2.2.2.wlt (k * 2 + 1)
      have HTW := Lib.hid (HT.out.below hB HT.out.1)
      have HWF := Lib.hid (show ∀ b ∈ rowL (ws.getD (k * 2) 0) (ws.getD (k * 2 + 1) 0), b < n from HWFN.out k hlt)
      have HRW := Lib.hid (show rowOf ws k = rowL (ws.getD (k * 2) 0) (ws.getD (k * 2 + 1) 0) from rfl)
      have HTH := Lib.hid (thenTo_succ ws ws2 n k)
      have hol := thenTo_len ws ws2 n k
      have HO := Lib.hid hR
      have HB := Lib.hid hB
      clear hR hB hrr
      generalize thenTo ws ws2 n k = o at *
      generalize ws.getD (k * 2) 0 = y0 at *
      generalize ws.getD (k * 2 + 1) 0 = y1 at *
      have hki : (0 : Int) ≤ k := by omega
      have hk2 : (k : Int) < n := by omega
      have HE := Lib.hid (fun w1 (h : TabW w1) => each_any y0 y1 w1 l0 l1 h)
      have hRl := rowL_len y0 y1
      generalize rowL y0 y1 = R at *
      go_wp2_with fail
      refine (HE.out _ (HTW.out.belowS (below_alloc (Below.refl _ _) _))).mono ?_
      rintro e w2 ⟨v, rfl, ho, hb⟩
      obtain ⟨p, c, rfl, _⟩ := own_form ho
      obtain ⟨hrd, _, hrp⟩ := Rds.own ho
      have HOL := Lib.hid (show w.heap.size < wo.heap.size from HO.out.glt)
      have HRD := Lib.hid hrd
      have HNE := Lib.hid (fun (a : Addr) (ha : p = some a) => show w.heap.size < a.block from by have h1 := (hrp a ha).1; have h2 := HOL.out; simp at h1; omega)
      have HO2 := Lib.hid (HO.out.below (below_trans (below_alloc (Below.refl _ _) _) hb))
      have HB2 := Lib.hid (below_trans (below_alloc HB.out _) hb)
      clear ho hb hrd hrp HE HO HB d0 d1
      go_wp2_with fail
      go_loopw [43] (fun i wr => ∃ j : Nat, j ≤ R.length ∧ i = .int .i64 j ∧ RelAt wr (w.heap.size + 1) w.heap.size n (thenRow ws2 k o (R.take j)) ∧ Rds wr 1 p R.length (R.map fun b => .int .i64 (b : Nat)) ∧ Below w.heap.size w wr) (fun i _ => R.length - (intOf i).toNat)
      case atStart => exact ⟨0, by omega, rfl, HO2.out, HRD.out, HB2.out⟩
      case round =>
        clear HO2 HRD HB2
        obtain ⟨j, hj, rfl, hO, hRD, hB⟩ := hrel
        obtain ⟨wi, rfl⟩ : ∃ wi : World, wi = wr := ⟨_, rfl⟩
        by_cases hlj : j < R.length
        · obtain ⟨gp, op, u, hpe, hu, hcj⟩ := hRD.at_ (j := j) (by omega)
          subst hpe
          have hue : u = .int .i64 ((R[j] : Nat) : Int) := by
            have : (R.map fun b => Value.int .i64 (b : Nat))[j]? = some (.int .i64 ((R[j] : Nat) : Int)) := by simp [hlj]
            rw [this] at hu; exact (Option.some.inj hu).symm
          subst hue
          have hRj := HWF.out R[j] (List.getElem_mem hlj)
          have HTS := Lib.hid (take_snoc' R j hlj)
          have HSN := Lib.hid (thenRow_snoc ws2 k o (R.take j) R[j])
          have hol2 := thenRow_len ws2 k (R.take j) o
          have hr2 := HR2.out.below hB
          have e0 := hr2.2.2.2.cell (j := R[j] * 2) (by have := hr2.len; omega)
          have e1 := hr2.2.2.2.cell (j := R[j] * 2 + 1) (by have := hr2.len; omega)
          have m0 := hr2.2.2.2.wlt (R[j] * 2)
          have m1 := hr2.2.2.2.wlt (R[j] * 2 + 1)
          have hc2 : wi.cell? ⟨h2, 0, none⟩ = some (.slice (some ⟨g2, 0, none⟩) n c2) := (HBL2.out.below hB).cell 0
          have HO := Lib.hid hO
          have HRD := Lib.hid hRD
          have HB := Lib.hid hB
          have hgp := HNE.out _ rfl
          obtain ⟨_, _, ⟨c9, hc9, hBl9⟩, _⟩ := hO
          have hc : wi.cell? ⟨w.heap.size + 1, 0, none⟩ = some (.slice (some ⟨w.heap.size, 0, none⟩) n c9) := hBl9.cell 0
          clear hRD hB hu hr2 hBl9
          generalize hRjb : R[j] = b at *
          generalize ws2.getD (b * 2) 0 = z0 at *
          generalize ws2.getD (b * 2 + 1) 0 = z1 at *
          have HJ := Lib.hid (join_any w.heap.size (k * 2) z0 z1 (thenRow ws2 k o (R.take j)) (wi.drewN 1) (HO.out.dn 1).2.2.2 (by omega) m0 m1)
          have hj0 : (0 : Int) ≤ j := by omega
          have hj2 : (j : Int) < R.length := by omega
          have hb0 : (0 : Int) ≤ b := by omega
          have hb1 : (b : Int) < n := by omega
          clear hRjb
          go_wp2_with fail
          refine region_tail 13 (by kernel_rfl) (by kernel_rfl) ?_
          simp only [List.take_succ_cons, List.take_zero, List.drop_succ_cons, List.drop_zero]
          repeat still_step
          refine wpStill_nil ?_
          go_wp2_with fail
          refine (HJ.out).mono ?_
          rintro e w3 ⟨⟨bb, rfl⟩, hW3, hG3⟩
          have HO3 := Lib.hid ((HO.out.dn 1).put (joinTo_len _ (k * 2) z0 z1 2) hW3 hG3)
          have HRD3 := Lib.hid ((HRD.out.dn 1).grown hG3 (fun q hq => by injection hq with hq; subst hq; simp; omega))
          have HB3 := Lib.hid ((below_drewN HB.out 1).grown hG3 (by have := HB.out.size; exact this) (fun i hi => by injection hi with hi; omega))
          clear hW3 hG3 HO HRD HB HJ hc hc2 e0 e1 hcj
          go_wp2_with fail
          go_roundw
          case rel => exact ⟨j + 1, by omega, by go_num, by rw [HTS.out, HSN.out]; exact HO3.out, HRD3.out, HB3.out⟩
          case measure => simp [intOf]; omega
        · obtain rfl : j = R.length := by omega
          rw [List.take_length] at hO
          have HO := Lib.hid hO
          have HB := Lib.hid hB
          clear hO hRD hB
          go_wp2_with fail
          go_roundw
          case rel => exact ⟨k + 1, by omega, by go_num, by rw [HTH.out, HRW.out]; exact HO.out, HB.out⟩
          case measure => simp [intOf]; omega
    · obtain rfl : k = n := by omega
      have HO := Lib.hid hR
      have HB := Lib.hid hB
      clear hR hB
      go_wp2_with fail
      go_ret2
      exact ⟨rfl, HO.out, HB.out⟩
end Go.Proofs.YtmiajpoclgdhbaaDoor
