/- Inverse, Within: a relation made by a fold over the pairs of another. -/
import Derived.Test.YtmiajpoclgdhbaaDoorRelSame
import Derived.Test.YtmiajpoclgdhbaaDoorRelTotalW
namespace Go.Proofs.YtmiajpoclgdhbaaDoor
open Go.RowKit
set_option linter.unusedVariables false

def foldW (n : Nat) (c : Nat × Nat → Bool) (f : Nat × Nat → Nat × Nat) (l : List (Nat × Nat)) : List Nat := l.foldl (fun acc p => if c p then addP acc (f p).1 (f p).2 else acc) (zeros n)
theorem foldW_snoc (n : Nat) (c : Nat × Nat → Bool) (f : Nat × Nat → Nat × Nat) (l : List (Nat × Nat)) (p : Nat × Nat) : foldW n c f (l ++ [p]) = if c p then addP (foldW n c f l) (f p).1 (f p).2 else foldW n c f l := by simp [foldW]
theorem foldW_len (n : Nat) (c : Nat × Nat → Bool) (f : Nat × Nat → Nat × Nat) (l : List (Nat × Nat)) : (foldW n c f l).length = 2 * n := by
  have : ∀ (l : List (Nat × Nat)) (ws : List Nat), (l.foldl (fun acc p => if c p then addP acc (f p).1 (f p).2 else acc) ws).length = ws.length := by
    intro l
    induction l with
    | nil => intro ws; rfl
    | cons p l ih =>
      intro ws
      rw [List.foldl_cons, ih]
      split
      · rw [addP_len]
      · rfl
  rw [foldW, this]; simp [zeros]
theorem foldW_has (n : Nat) (c : Nat × Nat → Bool) (f : Nat × Nat → Nat × Nat) (l : List (Nat × Nat)) (hl : ∀ p ∈ l, (f p).1 < n ∧ (f p).2 < 128) (x y : Nat) (hy : y < 128) : hasB (foldW n c f l) x y = l.any fun p => c p && (decide (x = (f p).1) && decide (y = (f p).2)) := by
  have : ∀ (l : List (Nat × Nat)) (ws : List Nat), ws.length = 2 * n → (∀ p ∈ l, (f p).1 < n ∧ (f p).2 < 128) → hasB (l.foldl (fun acc p => if c p then addP acc (f p).1 (f p).2 else acc) ws) x y = (hasB ws x y || l.any fun p => c p && (decide (x = (f p).1) && decide (y = (f p).2))) := by
    intro l
    induction l with
    | nil => intro ws _ _; simp
    | cons p l ih =>
      intro ws hw h
      have hp := h p (by simp)
      rw [List.foldl_cons, ih _ (by split; · rw [addP_len]; exact hw
                                    · exact hw) (fun q hq => h q (by simp [hq])), List.any_cons, ← Bool.or_assoc]
      congr 1
      by_cases hc : c p = true
      · rw [if_pos hc, hasB_addP ws n _ _ x y hw hp.1 hp.2 hy, hc, Bool.true_and]
      · rw [if_neg hc]
        have : c p = false := by simpa using hc
        rw [this, Bool.false_and, Bool.or_false]
  rw [foldW, this l (zeros n) (by simp [zeros]) hl, hasB_zeros, Bool.false_or]
theorem prTo_mem {ws : List Nat} {k : Nat} {p : Nat × Nat} : p ∈ prTo ws k ↔ p.1 < k ∧ p.2 < 128 ∧ hasB ws p.1 p.2 = true := by
  unfold prTo
  rw [List.mem_flatMap]
  constructor
  · rintro ⟨a, ha, hp⟩
    unfold rowPr at hp
    obtain ⟨b, hb, rfl⟩ := List.mem_map.1 hp
    obtain ⟨h1, h2⟩ := rowOf_mem hb
    exact ⟨List.mem_range.1 ha, h1, h2⟩
  · rintro ⟨h1, h2, h3⟩
    refine ⟨p.1, List.mem_range.2 h1, ?_⟩
    unfold rowPr
    rw [List.mem_map]
    refine ⟨p.2, ?_, rfl⟩
    rw [rowOf_filter, List.mem_filter]
    exact ⟨List.mem_range.2 h2, h3⟩
def swapP (p : Nat × Nat) : Nat × Nat := (p.2, p.1)
def invW (n : Nat) (ws : List Nat) : List Nat := foldW n (fun _ => true) swapP (prTo ws n)
theorem inv_says {n : Nat} {ws : List Nat} {T : Nat → Nat → Bool} (hn : n ≤ 128) (h : Says n ws T) : Says n (invW n ws) fun a b => T b a := by
  have hl : ∀ p ∈ prTo ws n, (swapP p).1 < n ∧ (swapP p).2 < 128 := fun p hp => by
    obtain ⟨h1, h2, h3⟩ := prTo_mem.1 hp
    exact ⟨h.2 _ h1 _ h2 h3, by show p.1 < 128; omega⟩
  have H : ∀ a, a < n → ∀ b, b < 128 → (hasB (invW n ws) a b = true ↔ b < n ∧ T b a = true) := by
    intro a ha b hb
    rw [invW, foldW_has n _ _ _ hl a b hb, List.any_eq_true]
    constructor
    · rintro ⟨p, hp, he⟩
      obtain ⟨h1, h2, h3⟩ := prTo_mem.1 hp
      rw [Bool.true_and, Bool.and_eq_true] at he
      have e1 : a = p.2 := of_decide_eq_true he.1
      have e2 : b = p.1 := of_decide_eq_true he.2
      subst e1 e2
      exact ⟨h1, by rw [← h.1 _ h1 _ ha]; exact h3⟩
    · rintro ⟨h1, h2⟩
      exact ⟨(b, a), prTo_mem.2 ⟨h1, by show a < 128; omega, by rw [h.1 b h1 a ha]; exact h2⟩, by simp [swapP]⟩
  refine ⟨fun a ha b hb => ?_, fun a ha b hb hh => ((H a ha b hb).1 hh).1⟩
  rw [Bool.eq_iff_iff, H a ha b (by omega)]
  exact ⟨fun h => h.2, fun h => ⟨hb, h⟩⟩
def withW (n : Nat) (fr to_ : List Bool) (ws : List Nat) : List Nat := foldW n (fun p => fr.getD p.1 false && to_.getD p.2 false) id (prTo ws n)
theorem with_says {n : Nat} {ws : List Nat} {T : Nat → Nat → Bool} {fr to_ : List Bool} (hn : n ≤ 128) (h : Says n ws T) : Says n (withW n fr to_ ws) fun a b => T a b && fr.getD a false && to_.getD b false := by
  have hl : ∀ p ∈ prTo ws n, (id p : Nat × Nat).1 < n ∧ (id p : Nat × Nat).2 < 128 := fun p hp => by
    obtain ⟨h1, h2, h3⟩ := prTo_mem.1 hp
    exact ⟨h1, h2⟩
  have H : ∀ a, a < n → ∀ b, b < 128 → (hasB (withW n fr to_ ws) a b = true ↔ b < n ∧ T a b = true ∧ fr.getD a false = true ∧ to_.getD b false = true) := by
    intro a ha b hb
    rw [withW, foldW_has n _ _ _ hl a b hb, List.any_eq_true]
    constructor
    · rintro ⟨p, hp, he⟩
      obtain ⟨h1, h2, h3⟩ := prTo_mem.1 hp
      simp only [id, Bool.and_eq_true, decide_eq_true_eq] at he
      obtain ⟨⟨e0, e3⟩, e1, e2⟩ := he
      subst e1 e2
      have hb2 := h.2 _ h1 _ h2 h3
      exact ⟨hb2, by rw [← h.1 _ h1 _ hb2]; exact h3, e0, e3⟩
    · rintro ⟨h1, h2, h3, h4⟩
      exact ⟨(a, b), prTo_mem.2 ⟨ha, hb, by rw [h.1 a ha b h1]; exact h2⟩, by simp only [id, h3, h4]; simp⟩
  refine ⟨fun a ha b hb => ?_, fun a ha b hb hh => ((H a ha b hb).1 hh).1⟩
  rw [Bool.eq_iff_iff, H a ha b (by omega)]
  simp only [Bool.and_eq_true]
  exact ⟨fun h => ⟨⟨h.2.1, h.2.2.1⟩, h.2.2.2⟩, fun h => ⟨hb, h.1.1, h.1.2, h.2⟩⟩
theorem mk_rows (n : Nat) (h : n ≤ 128) (w : World) : (Instr.makeSlice 62 (.int .i64 (n : Int)) (.int .i64 (n : Int))).run Tryd.prog w = .ok (.slice (some ⟨w.heap.size, 0, none⟩) n n) (w.alloc (.cells (madeCells #[.int .u64 0, .int .u64 0] (n * 2)) 67)) := mk_run elrow n (by omega) (by omega) w
/-- A relation laid anew, empty. -/
theorem rel_laid (w : World) (n : Nat) : RelAt ((w.alloc (.cells (madeCells #[.int .u64 0, .int .u64 0] (n * 2)) 67)).alloc (.cells #[.slice (some ⟨w.heap.size, 0, none⟩) n n] 64)) (w.heap.size + 1) w.heap.size n (zeros n) := by
  refine ⟨by omega, by simp [zeros], ⟨n, Nat.le_refl _, ?_⟩, (wds_made w n).kept (World.grownBy_alloc _ _ none) (by simp)⟩
  simpa using Blk.new (w.alloc (.cells (madeCells #[.int .u64 0, .int .u64 0] (n * 2)) 67)) 64 [.slice (some ⟨w.heap.size, 0, none⟩) n n]

set_option maxHeartbeats 3200000 in
theorem relinv_any (h g n : Nat) (ws : List Nat) (w : World) (r : RelAt w h g n ws) (hn : n ≤ 128) (hwf : WF n ws) (hT : TabW w) :
    Calls Tryd.prog 42 #[.pointer (some ⟨h, 0, none⟩)] w fun e w' => e = .returned (.pointer (some ⟨w.heap.size + 1, 0, none⟩)) ∧ RelAt w' (w.heap.size + 1) w.heap.size n (invW n ws) ∧ Below w.heap.size w w' := by
  have HR := Lib.hid r
  have HT := Lib.hid hT
  obtain ⟨_, _, ⟨c0, hc0, hBl⟩, _⟩ := r
  have hb0 : w.cell? ⟨h, 0, none⟩ = some (.slice (some ⟨g, 0, none⟩) n c0) := hBl.cell 0
  have hba := fun o => cell_alloc hb0 o
  have hba2 := fun o o2 => cell_alloc (cell_alloc hb0 o) o2
  clear hBl hT
  have hmk := mk_rows n hn
  have HN := Lib.hid (rel_laid w n)
  have HB := Lib.hid (show Below w.heap.size w ((w.alloc (.cells (madeCells #[.int .u64 0, .int .u64 0] (n * 2)) 67)).alloc (.cells #[.slice (some ⟨w.heap.size, 0, none⟩) n n] 64)) from below_alloc (below_alloc (Below.refl _ _) _) _)
  have HWF := Lib.hid (show ∀ p ∈ prTo ws n, p.2 < n from fun p hp => by
    obtain ⟨h1, h2, h3⟩ := prTo_mem.1 hp
    refine hwf p.1 h1 p.2 ?_
    rw [rowOf_filter, List.mem_filter]; exact ⟨List.mem_range.2 h2, h3⟩)
  clear hwf
  go_enter Tryd.func42, Tryd.ntmps42
  go_wp2_with fail
  obtain ⟨w1, hw1⟩ : ∃ w1, w1 = (w.alloc (.cells (madeCells #[.int .u64 0, .int .u64 0] (n * 2)) 67)).alloc (.cells #[.slice (some ⟨w.heap.size, 0, none⟩) n n] 64) := ⟨_, rfl⟩
  have hz1 : w1.heap.size = w.heap.size + 2 := by rw [hw1]; simp
  rw [← hw1] at HN HB ⊢
  clear hw1 hmk hba hba2
  refine (relpairs_any h g n ws w1 (HR.out.kept (below_grown HB.out none) (by simp) (by simp)) hn (HT.out.belowS HB.out)).mono ?_
  rintro e w2 ⟨v, rfl, ho, hb⟩
  obtain ⟨p, c, rfl, _⟩ := own_form ho
  obtain ⟨hrd, _, hrp⟩ := Rds.own ho
  have HRD := Lib.hid hrd
  have HNE := Lib.hid (fun a ha => (hrp a ha).1)
  have HB := Lib.hid (below_trans HB.out hb)
  have HN := Lib.hid (HN.out.below hb)
  have hpl := prTo_len ws n
  have HPM := Lib.hid (fun (k : Nat) (hk : k < (prTo ws n).length) => prTo_mem.1 (List.getElem_mem hk))
  generalize hpr : prTo ws n = l at *
  have HLP := Lib.hid hpr
  clear ho hb hrd hrp hpr
  have hll : l.length ≤ 16384 := by omega
  go_wp2_with fail
  go_loopw [17] (fun i wr => ∃ k : Nat, k ≤ l.length ∧ i = .int .i64 k ∧ RelAt wr (w.heap.size + 1) w.heap.size n (foldW n (fun _ => true) swapP (l.take k)) ∧ Rds wr 2 p l.length (prCells l) ∧ Below w.heap.size w wr ∧ w.heap.size + 2 ≤ wr.heap.size) (fun i _ => l.length - (intOf i).toNat)
  case atStart => exact ⟨0, by omega, rfl, by rw [List.take_zero]; exact HN.out, HRD.out, HB.out, by have := HN.out.hlt; omega⟩
  case round =>
    clear HN HRD HB
    obtain ⟨k, hk, rfl, hR, hRD, hB, hz⟩ := hrel
    obtain ⟨wo, rfl⟩ : ∃ wo : World, wo = wr := ⟨_, rfl⟩
    by_cases hlt : k < l.length
    · obtain ⟨gp, op, hpe, p0, p1⟩ := pr_at hRD hlt
      subst hpe
      have hgp : w.heap.size + 2 ≤ gp := by have := HNE.out _ rfl; simp at this; omega
      obtain ⟨m1, m2, m3⟩ := HPM.out k hlt
      have HTS := Lib.hid (take_snoc' l k hlt)
      have HSN := Lib.hid (foldW_snoc n (fun _ => true) swapP (l.take k) l[k])
      have hLW := foldW_len n (fun _ => true) swapP (l.take k)
      have hk0 : (0 : Int) ≤ k := by omega
      have hki : (k : Int) < l.length := by omega
      have HR0 := Lib.hid hR
      obtain ⟨_, _, ⟨c9, hc9, hBl⟩, _⟩ := hR
      have hra := fun o => cell_alloc (show wo.cell? ⟨w.heap.size + 1, 0, none⟩ = some (.slice (some ⟨w.heap.size, 0, none⟩) n c9) from hBl.cell 0) o
      have HRD := Lib.hid hRD
      have HB := Lib.hid hB
      obtain ⟨lk, hlk⟩ : ∃ q, q = l[k] := ⟨_, rfl⟩
      rw [← hlk] at p0 p1 m1 m2 m3 HSN
      have HLK := Lib.hid hlk
      clear hRD hB hBl hlk
      obtain ⟨a, b⟩ := lk
      simp only at p0 p1 m1 m2 m3
      have hbn : b < n := by have := HWF.out l[k] (by exact List.getElem_mem hlt); rw [← HLK.out] at this; exact this
      have HJ := Lib.hid (show Calls _ _ _ _ _ from rowset_any w.heap.size (b * 2) a (foldW n (fun _ => true) swapP (l.take k)) ((wo.alloc (.cells #[.int .i64 (a : Nat), .int .i64 (b : Nat)] 51)).drewN 1) ((HR0.out.below (below_alloc (Below.refl _ _) _)).dn 1).2.2.2 (by omega) (by omega))
      have hc0 : (0 : Int) ≤ (b : Int) := by omega
      have hc1 : (b : Int) < n := by omega
      go_wp2_with fail
      refine region_tail 9 (by kernel_rfl) (by kernel_rfl) ?_
      simp only [List.take_succ_cons, List.take_zero, List.drop_succ_cons, List.drop_zero]
      repeat still_step
      refine wpStill_nil ?_
      go_wp2_with fail
      refine (HJ.out).mono ?_
      rintro e w3 ⟨rfl, hW3, hG3⟩
      have hb0 : Below wo.heap.size wo ((wo.alloc (.cells #[.int .i64 (a : Nat), .int .i64 (b : Nat)] 51)).drewN 1) := below_drewN (below_alloc (Below.refl _ _) _) 1
      have HR3 := Lib.hid (show RelAt w3 (w.heap.size + 1) w.heap.size n (addP (foldW n (fun _ => true) swapP (l.take k)) b a) from by
        have e : addP (foldW n (fun _ => true) swapP (l.take k)) b a = setW (foldW n (fun _ => true) swapP (l.take k)) (b * 2 + a / 64) (a % 64) := by unfold addP; rw [show 2 * b = b * 2 by omega]
        rw [e]
        exact (HR0.out.below hb0).put (by simp [setW]) hW3 hG3)
      have HRD3 := Lib.hid ((HRD.out.below hb0).grown hG3 (fun q hq => by injection hq with hq; subst hq; simp; omega))
      have HB3 := Lib.hid ((HB.out.trans (hb0.mono (by omega))).grown hG3 (by simp; omega) (fun j hj => by injection hj with hj; omega))
      have HZ3 := Lib.hid (show w.heap.size + 2 ≤ w3.heap.size from by have := hG3.size; simp at this; omega)
      clear hW3 hG3 hb0 HR0 HRD HB HJ hra p0 p1
      go_wp2_with fail
      go_roundw
      case rel => exact ⟨k + 1, by omega, by go_num, by rw [HTS.out, ← HLK.out, HSN.out]; simpa [swapP] using HR3.out, HRD3.out, HB3.out, HZ3.out⟩
      case measure => simp [intOf]; omega
    · obtain rfl : k = l.length := by omega
      rw [List.take_length] at hR
      have HR0 := Lib.hid hR
      have HB := Lib.hid hB
      clear hR hRD hB
      go_wp2_with fail
      go_ret
      exact ⟨rfl, by rw [invW, HLP.out]; exact HR0.out, HB.out⟩
end Go.Proofs.YtmiajpoclgdhbaaDoor
