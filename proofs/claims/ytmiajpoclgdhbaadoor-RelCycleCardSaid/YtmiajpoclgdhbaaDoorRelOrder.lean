/- Order: its walk. -/
import Derived.Test.YtmiajpoclgdhbaaDoorRelCopy
namespace Go.Proofs.YtmiajpoclgdhbaaDoor
open Go.RowKit
set_option linter.unusedVariables false

def bump (d : Int) (ah : List Int) (l : List Nat) : List Int := l.foldl (fun ah b => ah.set b (ah.getD b 0 + d)) ah
theorem bump_snoc (d : Int) (ah : List Int) (l : List Nat) (b : Nat) : bump d ah (l ++ [b]) = (bump d ah l).set b ((bump d ah l).getD b 0 + d) := by simp [bump]
theorem bump_len (d : Int) (ah : List Int) (l : List Nat) : (bump d ah l).length = ah.length := by
  induction l generalizing ah with
  | nil => rfl
  | cons b l ih => show (bump d (ah.set b _) l).length = _; rw [ih]; simp
theorem getD_set {α : Type} (l : List α) (i j : Nat) (x z : α) : (l.set i x).getD j z = if i = j ∧ i < l.length then x else l.getD j z := by
  rw [List.getD_eq_getElem?_getD, List.getD_eq_getElem?_getD, List.getElem?_set]
  by_cases h : i = j
  · subst h
    by_cases h2 : i < l.length
    · simp [h2]
    · simp [h2]
  · simp [h]
theorem bump_bound (d : Int) (ah : List Int) (l : List Nat) (b : Nat) (K : Int) (hd : -1 ≤ d ∧ d ≤ 1) (h : ∀ i, -K ≤ (bump d ah l).getD i 0 ∧ (bump d ah l).getD i 0 ≤ K) : ∀ i, -(K + 1) ≤ (bump d ah (l ++ [b])).getD i 0 ∧ (bump d ah (l ++ [b])).getD i 0 ≤ K + 1 := by
  intro i
  rw [bump_snoc, getD_set]
  have h1 := h i
  have h2 := h b
  split <;> omega
/-- A row's places. -/
def rowOf (ws : List Nat) (a : Nat) : List Nat := rowL (ws.getD (a * 2) 0) (ws.getD (a * 2 + 1) 0)
theorem rowL_len (y0 y1 : Nat) : (rowL y0 y1).length ≤ 128 := by
  have h1 := bitsL_len y0
  have h2 := bitsL_len y1
  simp only [rowL, List.length_append, List.length_map]; omega
/-- No row leads out of the things. -/
def WF (n : Nat) (ws : List Nat) : Prop := ∀ a, a < n → ∀ b ∈ rowOf ws a, b < n
def countW (n : Nat) (ws : List Nat) : List Int := (List.range n).foldl (fun ah a => bump 1 ah (rowOf ws a)) (List.replicate n 0)
theorem countTo_len (n k : Nat) (ws : List Nat) : ((List.range k).foldl (fun ah a => bump 1 ah (rowOf ws a)) (List.replicate n 0)).length = n := by
  induction k with
  | zero => simp
  | succ k ih => rw [fold_succ, bump_len, ih]
/-- The least thing that is free. -/
def freeAt (ah : List Int) (dn : List Bool) (i : Nat) : Bool := ah.getD i 0 == 0 && !dn.getD i false
def firstFree (n : Nat) (ah : List Int) (dn : List Bool) : Option Nat := (List.range n).find? (freeAt ah dn)
def ordW (n : Nat) (ws : List Nat) (ah : List Int) (dn : List Bool) (out : List Nat) : Option (List Nat) :=
  if out.length < n then
    match firstFree n ah dn with
    | none => none
    | some i => ordW n ws (bump (-1) ah (rowOf ws i)) (dn.set i true) (out ++ [i])
  else some out
  termination_by n - out.length
  decreasing_by simp; omega
def orderW (n : Nat) (ws : List Nat) : Option (List Nat) := ordW n ws (countW n ws) (List.replicate n false) []
theorem find_none_to {q : Nat → Bool} {k : Nat} (h : ∀ j, j < k → q j = false) : (List.range k).find? q = none := by
  rw [List.find?_eq_none]; intro x hx; rw [h x (List.mem_range.1 hx)]; simp
theorem find_first {q : Nat → Bool} {k n : Nat} (hk : k < n) (h : ∀ j, j < k → q j = false) (hq : q k = true) : (List.range n).find? q = some k := by
  rw [List.find?_range_eq_some]
  exact ⟨hq, List.mem_range.2 hk, fun j hj => by rw [h j hj]; rfl⟩

theorem elbool : El Tryd.prog 23 4 (.bool false) 1 1 := ⟨Tryd.underlying23, by kernel_rfl⟩
theorem mk_ints (n : Nat) (h : n ≤ 1000000) (w : World) : (Instr.makeSlice 33 (.int .i64 (n : Int)) (.int .i64 (n : Int))).run Tryd.prog w = .ok (.slice (some ⟨w.heap.size, 0, none⟩) n n) (w.alloc (.cells (madeCells #[.int .i64 0] n) 3)) := by
  have := mk_run eli n (by omega) (by omega) w
  rw [Nat.mul_one] at this
  exact this
theorem mk_bools (n : Nat) (h : n ≤ 1000000) (w : World) : (Instr.makeSlice 23 (.int .i64 (n : Int)) (.int .i64 (n : Int))).run Tryd.prog w = .ok (.slice (some ⟨w.heap.size, 0, none⟩) n n) (w.alloc (.cells (madeCells #[.bool false] n) 4)) := by
  have := mk_run elbool n (by omega) (by omega) w
  rw [Nat.mul_one] at this
  exact this
theorem made_ints (w : World) (n : Nat) : Blk (w.alloc (.cells (madeCells #[.int .i64 0] n) 3)) 3 w.heap.size ((List.replicate n (0 : Int)).map (Value.int .i64)) := by
  have e : madeCells #[.int .i64 0] n = ((List.replicate n (0 : Int)).map (Value.int .i64)).toArray := by
    apply Array.toList_inj.1
    rw [toList_madeCells_one]; simp
  rw [e]; exact Blk.new _ _ _
theorem made_bools (w : World) (n : Nat) : Blk (w.alloc (.cells (madeCells #[.bool false] n) 4)) 4 w.heap.size ((List.replicate n false).map Value.bool) := by
  have e : madeCells #[.bool false] n = ((List.replicate n false).map Value.bool).toArray := by
    apply Array.toList_inj.1
    rw [toList_madeCells_one]; simp
  rw [e]; exact Blk.new _ _ _

def OrderPost (n : Nat) (ws : List Nat) (w : World) (e : Ending) (w' : World) : Prop :=
  Below w.heap.size w w' ∧ match orderW n ws with
    | none => e = .returned (.tuple #[.slice none 0 0, .int .i64 11])
    | some l => ∃ v, e = .returned (.tuple #[v, .int .i64 0]) ∧ w'.ownsRow w.heap.size 3 1 v l.length (l.map fun b => .int .i64 (b : Nat))

set_option maxRecDepth 100000 in
set_option maxHeartbeats 4000000 in
theorem relorder_any (h g n : Nat) (ws : List Nat) (w : World) (r : RelAt w h g n ws) (hn : n ≤ 128) (hwf : WF n ws) (hT : TabW w) :
    Calls Tryd.prog 17 #[.pointer (some ⟨h, 0, none⟩)] w (OrderPost n ws w) := by
  have HR := Lib.hid r
  have HT := Lib.hid hT
  have HWFN := Lib.hid hwf
  obtain ⟨_, _, ⟨c0, hc0, hBl⟩, _⟩ := r
  have HBL := Lib.hid hBl
  have hb0 : w.cell? ⟨h, 0, none⟩ = some (.slice (some ⟨g, 0, none⟩) n c0) := hBl.cell 0
  have hba := fun o => cell_alloc hb0 o
  clear hBl hT hwf
  have hmk := mk_ints n (by omega)
  have HI0 := Lib.hid (made_ints w n)
  have HB0 := Lib.hid (below_alloc (Below.refl w.heap.size w) (.cells (madeCells #[.int .i64 0] n) 3))
  go_enter Tryd.func17, Tryd.ntmps17
  go_wp2_with fail
  obtain ⟨w1, hw1⟩ : ∃ w1, w1 = w.alloc (.cells (madeCells #[.int .i64 0] n) 3) := ⟨_, rfl⟩
  rw [← hw1] at HI0 HB0 ⊢
  clear hw1 hb0 hba hmk
  go_loopw [27] (fun i wr => ∃ k : Nat, k ≤ n ∧ i = .int .i64 k ∧ Blk wr 3 w.heap.size (((List.range k).foldl (fun ah a => bump 1 ah (rowOf ws a)) (List.replicate n (0 : Int))).map (Value.int .i64)) ∧ Below w.heap.size w wr ∧ ∀ i, -(128 * k : Int) ≤ ((List.range k).foldl (fun ah a => bump 1 ah (rowOf ws a)) (List.replicate n (0 : Int))).getD i 0 ∧ ((List.range k).foldl (fun ah a => bump 1 ah (rowOf ws a)) (List.replicate n (0 : Int))).getD i 0 ≤ 128 * k) (fun i _ => n - (intOf i).toNat)
  case atStart => exact ⟨0, by omega, rfl, HI0.out, HB0.out, fun i => by
    have : (List.replicate n (0 : Int)).getD i 0 = 0 := by rw [List.getD_eq_getElem?_getD, List.getElem?_replicate]; split <;> rfl
    show _ ≤ (List.replicate n (0 : Int)).getD i 0 ∧ (List.replicate n (0 : Int)).getD i 0 ≤ _
    omega⟩
  case round =>
    clear HI0 HB0
    obtain ⟨k, hk, rfl, hA, hB, hK⟩ := hrel
    obtain ⟨wo, rfl⟩ : ∃ wo : World, wo = wr := ⟨_, rfl⟩
    by_cases hlt : k < n
    · have hFS := fold_succ (fun ah a => bump 1 ah (rowOf ws a)) (List.replicate n (0 : Int)) k
      have HFS := Lib.hid hFS
      have hLn := countTo_len n k ws
      have hrr := HR.out.below hB
      have hL := hrr.len
      have d0 := hrr.2.2.2.cell (j := k * 2) (by omega)
      have d1 := hrr.2.2.2.cell (j := k * 2 + 1) (by omega)
      have l0 := hrr.2.2.2.wlt (k * 2)
      have l1 := hrr.2.2.2.wlt (k * 2 + 1)
      have HTW := Lib.hid (HT.out.below hB HT.out.1)
      have HWF := Lib.hid (show ∀ b ∈ rowL (ws.getD (k * 2) 0) (ws.getD (k * 2 + 1) 0), b < n from HWFN.out k hlt)
      have HRW := Lib.hid (show rowOf ws k = rowL (ws.getD (k * 2) 0) (ws.getD (k * 2 + 1) 0) from rfl)
      have hzw := hA.lt
      have HA := Lib.hid hA
      have HB := Lib.hid hB
      have HK := Lib.hid hK
      clear hA hB hK hFS hrr
      generalize (List.range k).foldl (fun ah a => bump 1 ah (rowOf ws a)) (List.replicate n (0 : Int)) = ah at *
      generalize ws.getD (k * 2) 0 = y0 at *
      generalize ws.getD (k * 2 + 1) 0 = y1 at *
      have hki : (0 : Int) ≤ k := by omega
      have hk2 : (k : Int) < n := by omega
      have HE := Lib.hid (fun w1 (h : TabW w1) => each_any y0 y1 w1 l0 l1 h)
      have hRl := rowL_len y0 y1
      generalize rowL y0 y1 = R at *
      go_wp2_with fail
      refine (HE.out _ (HTW.out.belowS (below_alloc (Below.refl _ _) _))).mono ?_
      rintro e w2 ⟨v, rfl, ho, hb⟩
      obtain ⟨p, c, rfl, _⟩ := own_form ho
      have HA := Lib.hid (HA.out.below (below_trans (below_alloc (Below.refl _ _) _) hb))
      have HB := Lib.hid (below_trans (below_alloc HB.out _) hb)
      have HO := Lib.hid ho
      have hzo : w.heap.size < (wo.alloc (.cells #[.int .u64 (y0 : Nat), .int .u64 (y1 : Nat)] 67)).heap.size := by simp; omega
      clear ho hb HE
      go_wp2_with fail
      generalize wo.alloc (.cells #[.int .u64 (y0 : Nat), .int .u64 (y1 : Nat)] 67) = wp at *
      go_loopw [34] (fun i wr => ∃ j : Nat, j ≤ R.length ∧ i = .int .i64 j ∧ Blk wr 3 w.heap.size ((bump (1) ah (R.take j)).map (Value.int .i64)) ∧ wr.ownsRow (wp.heap.size) 3 1 (.slice p R.length c) R.length (R.map fun b => .int .i64 (b : Nat)) ∧ Below w.heap.size w wr ∧ (∀ i, -((128 * k) + j : Int) ≤ (bump (1) ah (R.take j)).getD i 0 ∧ (bump (1) ah (R.take j)).getD i 0 ≤ (128 * k) + j)) (fun i _ => R.length - (intOf i).toNat)
      case atStart => exact ⟨0, by omega, rfl, HA.out, HO.out, HB.out, fun i => by have := HK.out i; rw [List.take_zero]; show _ ≤ ah.getD i 0 ∧ ah.getD i 0 ≤ _; omega⟩
      case round =>
        clear HA HO HB HK
        obtain ⟨j, hj, rfl, hA, hO, hB, hK⟩ := hrel
        obtain ⟨wi, rfl⟩ : ∃ wi : World, wi = wr := ⟨_, rfl⟩
        by_cases hlj : j < R.length
        · obtain ⟨g2, c2, hv2, hb2, hl2, hn2, hc2, hcells, _⟩ := own_open hO (by omega)
          injection hv2 with hv2 _ _
          subst hv2
          have hcj : wi.cell? ⟨g2, j, none⟩ = some (.int .i64 ((R[j] : Nat) : Int)) := by rw [hcells j hlj]; simp [hlj]
          have hRj := HWF.out R[j] (List.getElem_mem hlj)
          have HTS := Lib.hid (take_snoc' R j hlj)
          have HBS := Lib.hid (bump_snoc (1) ah (R.take j) R[j])
          have hLb := bump_len (1) ah (R.take j)
          have HKS := Lib.hid (bump_bound (1) ah (R.take j) R[j] ((128 * k) + j) (by decide) hK)
          have hx := hK R[j]
          have hji : (0 : Int) ≤ j := by omega
          have hj2 : (j : Int) < R.length := by omega
          generalize R[j] = b at *
          generalize hbt : bump (1) ah (R.take j) = bt at *
          have hd : wi.cell? ⟨w.heap.size, b, none⟩ = some (.int .i64 (bt.getD b 0)) := by
            rw [hA.cell b]
            have hb : b < bt.length := by omega
            simp [hb]
          have hf := hA.free b
          have HAS := Lib.hid (hA.set b (.int .i64 (bt.getD b 0 + (1))))
          have HOS := Lib.hid (ownsRow_setCell_other hO (a := ⟨w.heap.size, b, none⟩) (by show (some g2 : Option Nat) ≠ some w.heap.size; intro e; injection e with e; omega) (.int .i64 (bt.getD b 0 + (1))))
          have HBB := Lib.hid (hB.setCell (p := ⟨w.heap.size, b, none⟩) (by simp) (.int .i64 (bt.getD b 0 + (1))))

          clear hA hO hB hK hcells hbt
          have hb0 : (0 : Int) ≤ b := by omega
          have hb1 : (b : Int) < n := by omega
          generalize bt.getD b 0 = y at *
          have hwy : IntKind.i64.wrap (y + 1) = y + (1) := (IntWalk.i64_in _ (by omega)).trans (by omega)
          go_wp2_with fail
          go_roundw
          case rel =>
            refine ⟨j + 1, by omega, by go_num, ?_, HOS.out, HBB.out, ?_⟩
            · rw [HTS.out, HBS.out, List.map_set]; exact HAS.out
            · rw [HTS.out]; intro i; have := HKS.out i; omega
          case measure => simp [intOf]; omega
        · obtain rfl : j = R.length := by omega
          rw [List.take_length] at hA hK
          have HA := Lib.hid hA
          have HB := Lib.hid hB
          have HK := Lib.hid hK
          clear hA hO hB hK
          go_wp2_with fail
          go_roundw
          case rel => exact ⟨k + 1, by omega, by go_num, by rw [HFS.out, HRW.out]; exact HA.out, HB.out, fun i => by rw [HFS.out, HRW.out]; have := HK.out i; omega⟩
          case measure => simp [intOf]; omega
    · obtain rfl : k = n := by omega
      have HA := Lib.hid (show Blk wo 3 w.heap.size ((countW k ws).map (Value.int .i64)) from hA)
      have HB := Lib.hid hB
      have HK := Lib.hid (show ∀ i, -(128 * k : Int) ≤ (countW k ws).getD i 0 ∧ (countW k ws).getD i 0 ≤ 128 * k from hK)
      clear hA hB hK
      have hba : ∀ o, (wo.alloc o).cell? ⟨h, 0, none⟩ = some (.slice (some ⟨g, 0, none⟩) k c0) := fun o => cell_alloc ((HBL.out.below HB.out).cell 0) o
      have hb0 : wo.cell? ⟨h, 0, none⟩ = some (.slice (some ⟨g, 0, none⟩) k c0) := (HBL.out.below HB.out).cell 0
      have hmk := mk_bools k (by omega)
      have HD := Lib.hid (made_bools wo k)
      have HA1 := Lib.hid (HA.out.alloc (.cells (madeCells #[.bool false] k) 4))
      have HB1 := Lib.hid (below_alloc HB.out (.cells (madeCells #[.bool false] k) 4))
      have hzd := HA.out.lt
      have hLc := countTo_len k k ws
      have HLc := Lib.hid (show (countW k ws).length = k from hLc)
      clear hLc
      go_wp2_with fail
      obtain ⟨w1, hw1⟩ : ∃ w1, w1 = wo.alloc (.cells (madeCells #[.bool false] k) 4) := ⟨_, rfl⟩
      have hzw : w1.heap.size = wo.heap.size + 1 := by rw [hw1]; simp
      rw [← hw1] at HD HA1 HB1 ⊢
      clear hw1 hb0 hba hmk HA HB
      go_loopw [9] (fun v wr => ∃ (ah : List Int) (dn : List Bool) (out : List Nat), ah.length = k ∧ dn.length = k ∧ out.length ≤ k ∧ ordW k ws ah dn out = orderW k ws ∧ Blk wr 3 w.heap.size (ah.map (Value.int .i64)) ∧ Blk wr 4 wo.heap.size (dn.map Value.bool) ∧ wr.ownsRow (wo.heap.size + 1) 3 1 v out.length (out.map fun b => .int .i64 (b : Nat)) ∧ Below w.heap.size w wr ∧ (∀ i, -(16384 + 128 * out.length : Int) ≤ ah.getD i 0 ∧ ah.getD i 0 ≤ 16384 + 128 * out.length) ∧ wo.heap.size + 1 ≤ wr.heap.size) (fun v wr => k - (match v with | .slice _ m _ => m | _ => 0))
      case atStart => exact ⟨countW k ws, List.replicate k false, [], HLc.out, by simp, by simp, rfl, HA1.out, HD.out, World.ownsRow_nil _ _ _ _, HB1.out, fun i => by have := HK.out i; simp only [List.length_nil]; omega, by omega⟩
      case round =>
        clear HA1 HD HB1 HK HLc hzw
        obtain ⟨ah, dn, out, hla, hld, hlo, ho, hA, hD, hO, hB, hK, hz⟩ := hrel
        obtain ⟨wm, rfl⟩ : ∃ wm : World, wm = wr := ⟨_, rfl⟩
        obtain ⟨po, co, rfl, _⟩ := own_form hO
        have hb0 : wm.cell? ⟨h, 0, none⟩ = some (.slice (some ⟨g, 0, none⟩) k c0) := (HBL.out.below hB).cell 0
        by_cases hlt2 : out.length < k
        · have hlt2i : (out.length : Int) < k := by omega
          have HORD := Lib.hid (show ordW k ws ah dn out = match firstFree k ah dn with | none => none | some i => ordW k ws (bump (-1) ah (rowOf ws i)) (dn.set i true) (out ++ [i]) from by rw [ordW, if_pos hlt2])
          have HA := Lib.hid hA
          have HD := Lib.hid hD
          have HO := Lib.hid hO
          have HB := Lib.hid hB
          have HK := Lib.hid hK
          have HOE := Lib.hid ho
          clear hA hD hO hB hK ho
          go_wp2_with fail
          go_loop [11, 62] (fun nx i => nx = .int .i64 (-1) ∧ ∃ j : Nat, j ≤ k ∧ i = .int .i64 j ∧ ∀ x, x < j → freeAt ah dn x = false) (fun _ i => k - (intOf i).toNat)
          case atStart => exact ⟨rfl, 0, by omega, rfl, fun x hx => by omega⟩
          case round =>
            obtain ⟨rfl, j, hj, rfl, hfr⟩ := hrel
            by_cases hlj : j < k
            · have hji : (0 : Int) ≤ j := by omega
              have hj2 : (j : Int) < k := by omega
              have hca : wm.cell? ⟨w.heap.size, j, none⟩ = some (.int .i64 (ah.getD j 0)) := by
                rw [HA.out.cell j]
                have : j < ah.length := by omega
                simp [this]
              have hcd : wm.cell? ⟨wo.heap.size, j, none⟩ = some (.bool (dn.getD j false)) := by
                rw [HD.out.cell j]
                have : j < dn.length := by omega
                simp [this]
              have HF := Lib.hid (show freeAt ah dn j = (ah.getD j 0 == 0 && !dn.getD j false) from rfl)
              have HFR := Lib.hid hfr
              clear hfr
              cases hq : (ah.getD j 0 == 0)
              · have HNF := Lib.hid (show freeAt ah dn j = false from by rw [HF.out, hq]; rfl)
                generalize ah.getD j 0 = y at *
                generalize dn.getD j false = d at *
                clear HF
                go_wp2_with fail
                go_round
                case rel => exact ⟨rfl, j + 1, by omega, by go_num, fun x hx => by
                  by_cases e : x = j
                  · subst e; exact HNF.out
                  · exact HFR.out x (by omega)⟩
                case measure => simp [intOf]; omega
              · cases hqd : dn.getD j false
                · have HYF := Lib.hid (show freeAt ah dn j = true from by rw [HF.out, hq, hqd]; rfl)
                  have HFF := Lib.hid (show firstFree k ah dn = some j from find_first hlj HFR.out HYF.out)
                  rw [hqd] at hcd
                  generalize hy : ah.getD j 0 = y at *
                  clear HF HFR hy
                  have hcf := HD.out.free j
                  have hrr := HR.out.below HB.out
                  have d0 := hrr.2.2.2.cell (j := j * 2) (by have := hrr.len; omega)
                  have d1 := hrr.2.2.2.cell (j := j * 2 + 1) (by have := hrr.len; omega)
                  have l0 := hrr.2.2.2.wlt (j * 2)
                  have l1 := hrr.2.2.2.wlt (j * 2 + 1)
                  have hgl := HR.out.glt
                  have hhl := HR.out.hlt
                  have hzb := HB.out.size
                  have HWF := Lib.hid (show ∀ b ∈ rowL (ws.getD (j * 2) 0) (ws.getD (j * 2 + 1) 0), b < k from HWFN.out j hlj)
                  have HRW := Lib.hid (show rowOf ws j = rowL (ws.getD (j * 2) 0) (ws.getD (j * 2 + 1) 0) from rfl)
                  clear hrr
                  obtain ⟨y0, hy0⟩ : ∃ y, ws.getD (j * 2) 0 = y := ⟨_, rfl⟩
                  obtain ⟨y1, hy1⟩ : ∃ y, ws.getD (j * 2 + 1) 0 = y := ⟨_, rfl⟩
                  rw [hy0] at d0 l0 HWF HRW
                  rw [hy1] at d1 l1 HWF HRW
                  have HY0 := Lib.hid hy0
                  have HY1 := Lib.hid hy1
                  clear hy0 hy1
                  have HE := Lib.hid (fun w1 (h : TabW w1) => each_any y0 y1 w1 l0 l1 h)
                  have hRl := rowL_len y0 y1
                  generalize rowL y0 y1 = R at *
                  have HOS := Lib.hid (ownsRow_setCell_below HO.out (a := ⟨wo.heap.size, j, none⟩) (by simp) (.bool true))
                  have HDS := Lib.hid (show Blk (wm.setCell ⟨wo.heap.size, j, none⟩ (.bool true)) 4 wo.heap.size ((dn.set j true).map Value.bool) from by rw [List.map_set]; exact HD.out.set j (.bool true))
                  have HAS := Lib.hid (HA.out.other (p := ⟨wo.heap.size, j, none⟩) (by simp; omega) (.bool true))
                  have HBS := Lib.hid (HB.out.setCell (p := ⟨wo.heap.size, j, none⟩) (by simp; omega) (.bool true))
                  have HSZ := Lib.hid (show wo.heap.size + 1 ≤ (wm.setCell ⟨wo.heap.size, j, none⟩ (.bool true)).heap.size from by simp; omega)
                  go_wp2_with (at_builtin; refine app1s rfl _ _ 33 rfl (wo.heap.size + 1) 3 _ 1 8 eli rfl (by decide) _ _ _ rfl HOS.out [.int .i64 (j : Nat)] rfl _ rfl (by simp) (by simp [Value.oneCell']) ?c1 ?c2 ?c3 ?_)
                  case c1 => unfold maxLen; omega
                  case c2 => omega
                  intro v' w3 ho' hg' hb'
                  obtain ⟨p3, c3, rfl, _⟩ := own_form ho'
                  have HO3 := Lib.hid (show w3.ownsRow (wo.heap.size + 1) 3 1 (.slice p3 (out.length + 1) c3) (out.length + 1) ((out ++ [j]).map fun b => .int .i64 (b : Nat)) from by rw [List.map_append]; exact ho')
                  have HA3 := Lib.hid (HAS.out.belowB hb' (by omega))
                  have HD3 := Lib.hid (HDS.out.belowB hb' (by omega))
                  have HB3 := Lib.hid (HBS.out.trans (hb'.mono (by omega)))
                  have HZ3 := Lib.hid (Nat.le_trans HSZ.out hb'.size)
                  clear ho' hg' hb' HOS HDS HAS HBS HSZ HA HD HB HO d0 d1 hb0 hcd hca
                  have hrr := HR.out.below HB3.out
                  have hb0 : w3.cell? ⟨h, 0, none⟩ = some (.slice (some ⟨g, 0, none⟩) k c0) := (HBL.out.below HB3.out).cell 0
                  have d0 : w3.cell? ⟨g, j * 2, none⟩ = some (.int .u64 (y0 : Nat)) := HY0.out ▸ hrr.2.2.2.cell (j := j * 2) (by have := hrr.len; omega)
                  have d1 : w3.cell? ⟨g, j * 2 + 1, none⟩ = some (.int .u64 (y1 : Nat)) := HY1.out ▸ hrr.2.2.2.cell (j := j * 2 + 1) (by have := hrr.len; omega)
                  have HTW := Lib.hid (HT.out.below HB3.out HT.out.1)
                  clear hrr
                  go_wp2_with fail
                  refine (HE.out _ HTW.out).mono ?_
                  rintro e w4 ⟨v, rfl, ho, hb⟩
                  obtain ⟨p, c, rfl, _⟩ := own_form ho
                  have HA := Lib.hid (HA3.out.below hb)
                  have HD := Lib.hid (HD3.out.below hb)
                  have HB := Lib.hid (below_trans HB3.out hb)
                  have HOO := Lib.hid (own_below HO3.out hb)
                  have HO := Lib.hid ho
                  have HZ := Lib.hid (Nat.le_trans HZ3.out hb.size)
                  have hzo : w.heap.size < w3.heap.size := by have := HZ3.out; omega
                  clear ho hb HE HA3 HD3 HB3 HO3 HTW d0 d1 hb0
                  have HLB := bump_len (-1) ah R
                  go_wp2_with fail
                  obtain ⟨j0, hj0⟩ : ∃ j0, j0 = j := ⟨_, rfl⟩
                  rw [← hj0] at HD HOO
                  go_loopw [96] (fun i wr => ∃ j : Nat, j ≤ R.length ∧ i = .int .i64 j ∧ Blk wr 3 w.heap.size ((bump (-1) ah (R.take j)).map (Value.int .i64)) ∧ wr.ownsRow (w3.heap.size) 3 1 (.slice p R.length c) R.length (R.map fun b => .int .i64 (b : Nat)) ∧ Below w.heap.size w wr ∧ (∀ i, -((16384 + 128 * out.length) + j : Int) ≤ (bump (-1) ah (R.take j)).getD i 0 ∧ (bump (-1) ah (R.take j)).getD i 0 ≤ (16384 + 128 * out.length) + j) ∧ Blk wr 4 wo.heap.size ((dn.set j0 true).map Value.bool) ∧ wr.ownsRow (wo.heap.size + 1) 3 1 (.slice p3 (out.length + 1) c3) (out.length + 1) ((out ++ [j0]).map fun b => .int .i64 (b : Nat)) ∧ wo.heap.size + 1 ≤ wr.heap.size) (fun i _ => R.length - (intOf i).toNat)
                  case atStart => exact ⟨0, by omega, rfl, HA.out, HO.out, HB.out, fun i => by have := HK.out i; rw [List.take_zero]; show _ ≤ ah.getD i 0 ∧ ah.getD i 0 ≤ _; omega, HD.out, HOO.out, HZ.out⟩
                  case round =>
                    clear HA HO HB HK HD HOO HZ
                    obtain ⟨j, hj, rfl, hA, hO, hB, hK, hD, hOO, hz⟩ := hrel
                    obtain ⟨wi, rfl⟩ : ∃ wi : World, wi = wr := ⟨_, rfl⟩
                    by_cases hlj : j < R.length
                    · obtain ⟨g2, c2, hv2, hb2, hl2, hn2, hc2, hcells, _⟩ := own_open hO (by omega)
                      injection hv2 with hv2 _ _
                      subst hv2
                      have hcj : wi.cell? ⟨g2, j, none⟩ = some (.int .i64 ((R[j] : Nat) : Int)) := by rw [hcells j hlj]; simp [hlj]
                      have hRj := HWF.out R[j] (List.getElem_mem hlj)
                      have HTS := Lib.hid (take_snoc' R j hlj)
                      have HBS := Lib.hid (bump_snoc (-1) ah (R.take j) R[j])
                      have hLb := bump_len (-1) ah (R.take j)
                      have HKS := Lib.hid (bump_bound (-1) ah (R.take j) R[j] ((16384 + 128 * out.length) + j) (by decide) hK)
                      have hx := hK R[j]
                      have hji : (0 : Int) ≤ j := by omega
                      have hj2 : (j : Int) < R.length := by omega
                      generalize R[j] = b at *
                      generalize hbt : bump (-1) ah (R.take j) = bt at *
                      have hd : wi.cell? ⟨w.heap.size, b, none⟩ = some (.int .i64 (bt.getD b 0)) := by
                        rw [hA.cell b]
                        have hb : b < bt.length := by omega
                        simp [hb]
                      have hf := hA.free b
                      have HAS := Lib.hid (hA.set b (.int .i64 (bt.getD b 0 + (-1))))
                      have HOS := Lib.hid (ownsRow_setCell_other hO (a := ⟨w.heap.size, b, none⟩) (by show (some g2 : Option Nat) ≠ some w.heap.size; intro e; injection e with e; omega) (.int .i64 (bt.getD b 0 + (-1))))
                      have HBB := Lib.hid (hB.setCell (p := ⟨w.heap.size, b, none⟩) (by simp) (.int .i64 (bt.getD b 0 + (-1))))
                      have HDS := Lib.hid (hD.other (p := ⟨w.heap.size, b, none⟩) (by simp; omega) (.int .i64 (bt.getD b 0 + (-1))))
                      have HOOS := Lib.hid (ownsRow_setCell_below hOO (a := ⟨w.heap.size, b, none⟩) (by simp; omega) (.int .i64 (bt.getD b 0 + (-1))))
                      have HZS := Lib.hid (show wo.heap.size + 1 ≤ (wi.setCell ⟨w.heap.size, b, none⟩ (.int .i64 (bt.getD b 0 + (-1)))).heap.size from by simp; omega)
                      clear hD hOO hz
                      clear hA hO hB hK hcells hbt
                      have hb0 : (0 : Int) ≤ b := by omega
                      have hb1 : (b : Int) < k := by omega
                      generalize bt.getD b 0 = y at *
                      have hwy : IntKind.i64.wrap (y - 1) = y + (-1) := (IntWalk.i64_in _ (by omega)).trans (by omega)
                      go_wp2_with fail
                      go_roundw
                      case rel =>
                        refine ⟨j + 1, by omega, by go_num, ?_, HOS.out, HBB.out, ?_, HDS.out, HOOS.out, HZS.out⟩
                        · rw [HTS.out, HBS.out, List.map_set]; exact HAS.out
                        · rw [HTS.out]; intro i; have := HKS.out i; omega
                      case measure => simp [intOf]; omega
                    · obtain rfl : j = R.length := by omega
                      rw [List.take_length] at hA hK
                      have HA := Lib.hid hA
                      have HB := Lib.hid hB
                      have HK := Lib.hid hK
                      clear hA hO hB hK
                      have HD := Lib.hid hD
                      have HOO := Lib.hid hOO
                      have HZ := Lib.hid hz
                      clear hD hOO hz
                      go_wp2_with fail
                      go_roundw
                      case rel =>
                        refine ⟨bump (-1) ah R, dn.set j0 true, out ++ [j0], by omega, by simp; omega, by simp; omega, ?_, HA.out, HD.out, by rw [List.length_append]; exact HOO.out, HB.out, fun i => by have := HK.out i; simp only [List.length_append, List.length_singleton]; omega, HZ.out⟩
                        rw [← HOE.out, HORD.out, HFF.out, hj0, ← HRW.out]
                      case measure => simp; omega
                · have HNF := Lib.hid (show freeAt ah dn j = false from by rw [HF.out, hq, hqd]; rfl)
                  rw [hqd] at hcd
                  generalize ah.getD j 0 = y at *
                  clear HF
                  go_wp2_with fail
                  go_round
                  case rel => exact ⟨rfl, j + 1, by omega, by go_num, fun x hx => by
                    by_cases e : x = j
                    · subst e; exact HNF.out
                    · exact HFR.out x (by omega)⟩
                  case measure => simp [intOf]; omega
            · obtain rfl : j = k := by omega
              have HNN := Lib.hid (show orderW j ws = none from by rw [← HOE.out, HORD.out, show firstFree j ah dn = none from find_none_to hfr])
              clear hfr
              go_wp2_with fail
              go_ret2
              refine ⟨HB.out, ?_⟩
              rw [HNN.out]; rfl
        · have HDN := Lib.hid (show orderW k ws = some out from by rw [← ho, ordW, if_neg hlt2])
          have hlt2i : ¬ (out.length : Int) < k := by omega
          have HO := Lib.hid hO
          have HB := Lib.hid hB
          clear hA hD hO hB hK ho
          go_wp2_with fail
          go_ret2
          refine ⟨HB.out, ?_⟩
          rw [HDN.out]
          exact ⟨_, rfl, ownsRow_mono HO.out (show w.heap.size ≤ wo.heap.size + 1 by omega)⟩
end Go.Proofs.YtmiajpoclgdhbaaDoor
