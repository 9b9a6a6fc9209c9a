/- Copy. -/
import Derived.Test.YtmiajpoclgdhbaaDoorRelOf
import Derived.Deep.RegionHeldLaw
namespace Go.Proofs.YtmiajpoclgdhbaaDoor
open Go.RowKit
set_option linter.unusedVariables false

def wcells (ws : List Nat) : List Value := ws.map fun x => .int .u64 (x : Nat)
theorem wcells_get {ws : List Nat} {j : Nat} (h : j < ws.length) : (wcells ws)[j]? = some (.int .u64 (ws.getD j 0 : Nat)) := by
  simp [wcells, h]
/-- Words that a call's own row holds. -/
theorem Wds.of_own {w : World} {base n : Nat} {v : Value} {ws : List Nat} (h : w.ownsRow base 67 2 v n (wcells ws)) (hv : v ≠ .slice none 0 0) (hw : ∀ j, ws.getD j 0 < 18446744073709551616) : ∃ g c, v = .slice (some ⟨g, 0, none⟩) n c ∧ base ≤ g ∧ n ≤ c ∧ ws.length = n * 2 ∧ Wds w g ws := by
  have h' := h
  obtain ⟨hl, ⟨h1, _⟩ | ⟨g, cap, cur, rfl, hb, hg, hnc, hc, hcs, htake⟩⟩ := h
  · exact absurd h1 hv
  · have hl2 : ws.length = n * 2 := by simpa [wcells] using hl
    have hle : n * 2 ≤ cap * 2 := Nat.mul_le_mul_right _ hnc
    refine ⟨g, cap, rfl, hb, hnc, hl2, cur, hg, by omega, fun j hj => ?_, hw⟩
    rw [← wcells_get hj, ← htake, List.getElem?_take, if_pos (by omega), Array.getElem?_toList]
theorem own_lit (w : World) (base : Nat) (hb : base ≤ w.heap.size) : (w.alloc (.cells #[] 67)).ownsRow base 67 2 (.slice (some ⟨w.heap.size, 0, none⟩) 0 0) 0 [] :=
  ⟨rfl, .inr ⟨w.heap.size, 0, #[], rfl, hb, heap_alloc_new w _, Nat.le_refl _, by unfold maxLen; omega, rfl, rfl⟩⟩

set_option maxHeartbeats 800000 in
theorem relcopy_any (h g n : Nat) (ws : List Nat) (w : World) (r : RelAt w h g n ws) (hn : n ≤ 128) :
    Calls Tryd.prog 34 #[.pointer (some ⟨h, 0, none⟩)] w fun e w' => ∃ h' g', w.heap.size ≤ h' ∧ w.heap.size ≤ g' ∧ e = .returned (.pointer (some ⟨h', 0, none⟩)) ∧ RelAt w' h' g' n ws ∧ Below w.heap.size w w' := by
  have HR := Lib.hid r
  have HL := r.len
  obtain ⟨_, _, ⟨c, hc, hB⟩, hW⟩ := r
  have hc0 := (hB.alloc (.cells #[] 67)).cell 0
  have HW := Lib.hid hW
  clear hB hW
  obtain ⟨i, hi, hz0, hz1, hz2⟩ := info_parts elrow.2
  have HO := Lib.hid (own_lit w w.heap.size (Nat.le_refl _))
  go_enter Tryd.func34, Tryd.ntmps34
  go_wp2_with (at_builtin; refine wpList_append_own (w.alloc (.cells #[] 67)) rfl _ _ 62 rfl w.heap.size 67 i (.agg #[.int .u64 0, .int .u64 0]) 2 16 elrow.1 hi hz0 hz1 hz2 rfl (by decide) _ 0 [] rfl HO.out ⟨g, 0, none⟩ n c (wcells ws) rfl ?c1 ?c2 ?c3 ?c4 ?c5 ?c6 ?_)
  case c1 => simp [wcells]; omega
  case c2 =>
    intro j u hj
    have hlt : j < ws.length := by
      have := (List.getElem?_eq_some_iff.1 hj).1
      simpa [wcells] using this
    rw [wcells_get hlt] at hj
    injection hj with hj
    subst hj
    rw [addr_add, Nat.zero_add]
    exact cell_alloc (HW.out.cell hlt) _
  case c3 => intro u hu; simp only [wcells, List.mem_map] at hu; obtain ⟨x, _, rfl⟩ := hu; rfl
  case c4 => unfold maxLen; omega
  case c5 => omega
  case c6 => simp
  intro v' w' ho hg hv
  obtain ⟨g', c', rfl, hb', hnc', hl', hW'⟩ := Wds.of_own ho hv (fun j => HW.out.wlt j)
  have HW2 := Lib.hid hW'
  have HG := Lib.hid (show Below w.heap.size w w' from (below_alloc (Below.refl _ _) _).grown hg (by simp) (fun k hk => by simp [Value.ownBlock] at hk; omega))
  clear ho hg hv hW' HO
  go_wp2
  go_ret
  have hz := HG.out.size
  refine ⟨w'.heap.size, g', hz, hb', rfl, ⟨?_, HL, ⟨c', by omega, Blk.new w' 64 [.slice (some ⟨g', 0, none⟩) n c']⟩, ?_⟩, below_alloc HG.out _⟩
  · have := HW2.out.lt; omega
  · exact HW2.out.kept (World.grownBy_alloc _ _ none) (by simp)

/-- One row joined, where it leads to k. -/
def stepI (k y0 y1 : Nat) (ws : List Nat) (i : Nat) : List Nat := if hasB ws i k then joinTo ws (i * 2) y0 y1 2 else ws
def innerW (n k : Nat) (ws : List Nat) : List Nat := (List.range n).foldl (stepI k (ws.getD (k * 2) 0) (ws.getD (k * 2 + 1) 0)) ws
def closW (n : Nat) (ws : List Nat) : List Nat := (List.range n).foldl (fun ws k => innerW n k ws) ws
theorem stepI_len (k y0 y1 i : Nat) (ws : List Nat) : (stepI k y0 y1 ws i).length = ws.length := by unfold stepI; split <;> first | rw [joinTo_len] | rfl
theorem foldl_snoc {α β : Type} (f : β → α → β) (b : β) (k : Nat) (g : Nat → α) : ((List.range (k + 1)).map g).foldl f b = f (((List.range k).map g).foldl f b) (g k) := by
  rw [List.range_succ, List.map_append, List.foldl_append]; rfl
theorem fold_succ {β : Type} (f : β → Nat → β) (b : β) (k : Nat) : (List.range (k + 1)).foldl f b = f ((List.range k).foldl f b) k := by
  rw [List.range_succ, List.foldl_append]; rfl
theorem innerTo_len (k y0 y1 m : Nat) (ws : List Nat) : ((List.range m).foldl (stepI k y0 y1) ws).length = ws.length := by
  induction m with
  | zero => rfl
  | succ m ih => rw [fold_succ, stepI_len, ih]
theorem closTo_len (n m : Nat) (ws : List Nat) : ((List.range m).foldl (fun ws k => innerW n k ws) ws).length = ws.length := by
  induction m with
  | zero => rfl
  | succ m ih => rw [fold_succ, innerW, innerTo_len, ih]

set_option maxHeartbeats 1600000 in
theorem relclosure_any (h g n : Nat) (ws : List Nat) (w : World) (r : RelAt w h g n ws) (hn : n ≤ 128) :
    Calls Tryd.prog 36 #[.pointer (some ⟨h, 0, none⟩)] w fun e w' => ∃ h' g', w.heap.size ≤ h' ∧ w.heap.size ≤ g' ∧ e = .returned (.pointer (some ⟨h', 0, none⟩)) ∧ RelAt w' h' g' n (closW n ws) ∧ Below w.heap.size w w' := by
  have HC := Lib.hid (relcopy_any h g n ws w r hn)
  clear r
  go_enter Tryd.func36, Tryd.ntmps36
  go_wp2_with fail
  refine (HC.out).mono ?_
  rintro e w1 ⟨h', g', hh, hg, rfl, hr, hb⟩
  have HR := Lib.hid hr
  have HB := Lib.hid hb
  obtain ⟨hgh, _, ⟨c, hc, hBl⟩, _⟩ := hr
  have hc0 : w1.cell? ⟨h', 0, none⟩ = some (.slice (some ⟨g', 0, none⟩) n c) := hBl.cell 0
  have HBL := Lib.hid hBl
  clear HC hBl hb
  go_wp2_with fail
  clear hc0
  go_loopw [14] (fun i wr => ∃ k : Nat, k ≤ n ∧ i = .int .i64 k ∧ RelAt wr h' g' n ((List.range k).foldl (fun ws k => innerW n k ws) ws) ∧ Blk wr 64 h' [.slice (some ⟨g', 0, none⟩) n c] ∧ Below w.heap.size w wr) (fun i _ => n - (intOf i).toNat)
  case atStart => exact ⟨0, by omega, rfl, HR.out, HBL.out, HB.out⟩
  case round =>
    clear HR HB HBL
    obtain ⟨k, hk, rfl, hR, hBl, hB⟩ := hrel
    obtain ⟨wo, rfl⟩ : ∃ wo : World, wo = wr := ⟨_, rfl⟩
    by_cases hlt : k < n
    · have hc0 : wo.cell? ⟨h', 0, none⟩ = some (.slice (some ⟨g', 0, none⟩) n c) := hBl.cell 0
      have hca := fun o => cell_alloc hc0 o
      have hL := hR.len
      have d0 := hR.2.2.2.cell (j := k * 2) (by omega)
      have d1 := hR.2.2.2.cell (j := k * 2 + 1) (by omega)
      have l0 := hR.2.2.2.wlt (k * 2)
      have l1 := hR.2.2.2.wlt (k * 2 + 1)
      have HIN := Lib.hid (show innerW n k ((List.range k).foldl (fun ws k => innerW n k ws) ws) = (List.range n).foldl (stepI k (((List.range k).foldl (fun ws k => innerW n k ws) ws).getD (k * 2) 0) (((List.range k).foldl (fun ws k => innerW n k ws) ws).getD (k * 2 + 1) 0)) ((List.range k).foldl (fun ws k => innerW n k ws) ws) from rfl)
      have HFS := Lib.hid (fold_succ (fun ws k => innerW n k ws) ws k)
      have HR := Lib.hid hR
      have HB := Lib.hid hB
      have HBl := Lib.hid hBl
      clear hR hB hBl
      generalize (List.range k).foldl (fun ws k => innerW n k ws) ws = vs at *
      generalize vs.getD (k * 2) 0 = y0 at *
      generalize vs.getD (k * 2 + 1) 0 = y1 at *
      have hki : (0 : Int) ≤ k := by omega
      have hk2 : (k : Int) < n := by omega
      have HT := Lib.hid (show Blk (wo.alloc (.cells #[.int .u64 (y0 : Nat), .int .u64 (y1 : Nat)] 67)) 67 wo.heap.size [.int .u64 (y0 : Nat), .int .u64 (y1 : Nat)] from Blk.new _ _ _)
      have HR2 := Lib.hid (HR.out.below (below_alloc (Below.refl _ _) (.cells #[.int .u64 (y0 : Nat), .int .u64 (y1 : Nat)] 67)))
      have HBl2 := Lib.hid (HBl.out.alloc (.cells #[.int .u64 (y0 : Nat), .int .u64 (y1 : Nat)] 67))
      have HB2 := Lib.hid (below_alloc HB.out (.cells #[.int .u64 (y0 : Nat), .int .u64 (y1 : Nat)] 67))
      have hgl := HR.out.glt
      have hhl := HR.out.hlt
      have hzl := HB.out.size
      go_wp2_with fail
      clear HR HB HBl hc0 hca d0 d1
      go_loopw [29] (fun i wr => ∃ j : Nat, j ≤ n ∧ i = .int .i64 j ∧ RelAt wr h' g' n ((List.range j).foldl (stepI k y0 y1) vs) ∧ Blk wr 64 h' [.slice (some ⟨g', 0, none⟩) n c] ∧ Blk wr 67 wo.heap.size [.int .u64 (y0 : Nat), .int .u64 (y1 : Nat)] ∧ Below w.heap.size w wr) (fun i _ => n - (intOf i).toNat)
      case atStart => exact ⟨0, by omega, rfl, HR2.out, HBl2.out, HT.out, HB2.out⟩
      case round =>
        clear HR2 HBl2 HT HB2
        obtain ⟨j, hj, rfl, hR, hBl, hT, hB⟩ := hrel
        obtain ⟨wi, rfl⟩ : ∃ wi : World, wi = wr := ⟨_, rfl⟩
        by_cases hlj : j < n
        · have hc0 : wi.cell? ⟨h', 0, none⟩ = some (.slice (some ⟨g', 0, none⟩) n c) := hBl.cell 0
          have e0 : wi.cell? ⟨wo.heap.size, 0, none⟩ = some (.int .u64 (y0 : Nat)) := hT.cell 0
          have e1 : wi.cell? ⟨wo.heap.size, 1, none⟩ = some (.int .u64 (y1 : Nat)) := hT.cell 1
          have hL2 := hR.len
          have HSU := Lib.hid (fold_succ (stepI k y0 y1) vs j)
          generalize (List.range j).foldl (stepI k y0 y1) vs = us at *
          have hji : (0 : Int) ≤ j := by omega
          have hj2 : (j : Int) < n := by omega
          have HH := Lib.hid (show Calls _ _ _ wi (fun e w' => e = .returned (.bool (hasB us j k)) ∧ wi = w') from by
            have := rowhas_any g' (j * 2) (us.getD (j * 2 + k / 64) 0) k wi (by omega) (hR.2.2.2.wlt _) (hR.2.2.2.cell (by omega))
            have e : (us.getD (j * 2 + k / 64) 0).testBit (k % 64) = hasB us j k := by unfold hasB; rw [show j * 2 = 2 * j by omega]
            rw [e] at this
            exact this)
          have HJ := Lib.hid (join_any g' (j * 2) y0 y1 us (wi.drewN 1) (hR.dn 1).2.2.2 (by omega) l0 l1)
          have HST := Lib.hid (show (hasB us j k = true → stepI k y0 y1 us j = joinTo us (j * 2) y0 y1 2) ∧ (hasB us j k = false → stepI k y0 y1 us j = us) from ⟨fun e => by unfold stepI; rw [e]; rfl, fun e => by unfold stepI; rw [e]; rfl⟩)
          have HR := Lib.hid hR
          have HBl := Lib.hid hBl
          have HT := Lib.hid hT
          have HB := Lib.hid hB
          clear hR hBl hT hB
          cases hb : hasB us j k
          · rw [hb] at HH
            have HST := Lib.hid (HST.out.2 hb)
            go_wp2_with fail
            refine (HH.out).mono ?_
            rintro e w' ⟨rfl, rfl⟩
            go_wp2_with fail
            go_roundw
            case rel => exact ⟨j + 1, by omega, by go_num, by rw [HSU.out, HST.out]; exact HR.out, HBl.out, HT.out, HB.out⟩
            case measure => simp [intOf]; omega
          · rw [hb] at HH
            have HST := Lib.hid (HST.out.1 hb)
            go_wp2_with fail
            refine (HH.out).mono ?_
            rintro e w' ⟨rfl, rfl⟩
            go_wp2_with fail
            refine region_tail 7 (by kernel_rfl) (by kernel_rfl) ?_
            simp only [List.take_succ_cons, List.take_zero, List.drop_succ_cons, List.drop_zero]
            repeat still_step
            refine wpStill_nil ?_
            go_wp2_with fail
            refine (HJ.out).mono ?_
            rintro e w3 ⟨⟨bb, rfl⟩, hW3, hG3⟩
            have HR3 := Lib.hid ((HR.out.dn 1).put (joinTo_len us (j * 2) y0 y1 2) hW3 hG3)
            have HBl3 := Lib.hid ((HBl.out.dn 1).kept hG3 (by simpa using fun e => hgh e.symm))
            have HT3 := Lib.hid ((HT.out.dn 1).kept hG3 (by simp; omega))
            have HB3 := Lib.hid ((below_drewN HB.out 1).grown hG3 (by have := HB.out.size; exact this) (fun k hk => by injection hk with hk; omega))
            clear hW3 hG3 HR HBl HT HB HJ HH
            go_wp2_with fail
            go_roundw
            case rel => exact ⟨j + 1, by omega, by go_num, by rw [HSU.out, HST.out]; exact HR3.out, HBl3.out, HT3.out, HB3.out⟩
            case measure => simp [intOf]; omega
        · obtain rfl : j = n := by omega
          have HR := Lib.hid hR
          have HB := Lib.hid hB
          have HBl := Lib.hid hBl
          clear hR hB hBl hT
          go_wp2_with fail
          go_roundw
          case rel => exact ⟨k + 1, by omega, by go_num, by rw [HFS.out, HIN.out]; exact HR.out, HBl.out, HB.out⟩
          case measure => simp [intOf]; omega
    · obtain rfl : k = n := by omega
      have HR := Lib.hid hR
      have HB := Lib.hid hB
      clear hR hB hBl
      go_wp2_with fail
      go_ret
      exact ⟨h', g', hh, hg, rfl, HR.out, HB.out⟩
end Go.Proofs.YtmiajpoclgdhbaaDoor
