/- Contracts of granuleref05.Of and of the law's file. -/
import Derived.Test.YtikflhigenijdaaRegsAwake
import Derived.Test.YtikflhigenijdaaRegsNo31
import Derived.Test.YtikflhigenijdaaBlk
namespace Go.Proofs.Ytikflhigenijdaa
open Go.RowKit
set_option linter.unusedVariables false

theorem grownBy_setRow (w : World) (g : Nat) (cs : Array Value) : w.grownBy (w.setRow g cs) (some g) :=
  ⟨rfl, rfl, rfl, by simp, fun k _ hne => setRow_other w g k cs (fun e => hne (by rw [e]))⟩
theorem ownsRow_setRow_below {w : World} {base : Nat} {e : TypeId} {size : Nat} {v : Value} {n : Nat} {xs : List Value} (h : w.ownsRow base e size v n xs) {g : Nat} (hg : g < base) (cs : Array Value) : (w.setRow g cs).ownsRow base e size v n xs := by
  refine h.kept (grownBy_setRow w g cs) ?_
  cases hv : v.ownBlock with
  | none => exact .inl rfl
  | some k => exact .inr (fun e => by have := (h.lt k hv).1; injection e with e; omega)
theorem elu : El Try.prog 22 23 (.int .u64 0) 1 8 := ⟨Try.underlying22, by kernel_rfl⟩

/-- The words of a list that came in. -/
def SrcAt (w : World) (p : Option Addr) (zs : List Int) : Prop := ∀ j, j < zs.length → ∃ b off, p = some ⟨b, off, none⟩ ∧ w.cell? ⟨b, off + j, none⟩ = some (.int .u64 (zs.getD j 0))
theorem SrcAt.below {w w' : World} {p : Option Addr} {zs : List Int} (h : SrcAt w p zs) (hb : Below w.heap.size w w') : SrcAt w' p zs := fun j hj => by
  obtain ⟨b, off, hp, hc⟩ := h j hj
  exact ⟨b, off, hp, (hb.cell (World.block_lt_of_cell? w _ hc)).trans hc⟩
theorem SrcAt.one {w : World} {p : Option Addr} {zs : List Int} (h : SrcAt w p zs) : zs = [] ∨ ∃ b off, p = some ⟨b, off, none⟩ ∧ ∀ j, j < zs.length → w.cell? ⟨b, off + j, none⟩ = some (.int .u64 (zs.getD j 0)) := by
  cases zs with
  | nil => exact .inl rfl
  | cons z zs =>
    obtain ⟨b, off, hp, _⟩ := h 0 (by simp)
    refine .inr ⟨b, off, hp, fun j hj => ?_⟩
    obtain ⟨b2, off2, hp2, hc⟩ := h j hj
    rw [hp] at hp2
    injection hp2 with e
    injection e with e1 e2
    rw [e1, e2]; exact hc

def RofInv (w : World) (zs : List Int) (same : Bool) (q : Option Addr) (sn sc k : Nat) (wr : World) : Prop :=
  Blk wr 32 w.heap.size [.slice none 0 0, .bool false, .slice none 0 0] ∧
  (∃ v, Blk wr 32 (w.heap.size + 1) [v, .bool same, .slice q sn sc] ∧ wr.ownsRow (w.heap.size + 2) 23 1 v k (u64s ((ofX zs).take k))) ∧ Below w.heap.size w wr ∧ w.heap.size + 2 ≤ wr.heap.size

theorem rof_start (w : World) (zs : List Int) (same : Bool) (q : Option Addr) (sn sc : Nat) :
    RofInv w zs same q sn sc 0 ((w.alloc (.cells #[.slice none 0 0, .bool false, .slice none 0 0] 32)).alloc (.cells #[.slice none 0 0, .bool same, .slice q sn sc] 32)) := by
  refine ⟨(Blk.new w _ _).alloc _, ⟨.slice none 0 0, ?_, ⟨by simp [u64s], .inl ⟨rfl, rfl⟩⟩⟩, below_alloc (below_alloc (Below.refl _ _) _) _, by simp⟩
  have := Blk.new (w.alloc (.cells #[.slice none 0 0, .bool false, .slice none 0 0] 32)) 32 [.slice none 0 0, .bool same, .slice q sn sc]
  simpa using this

theorem ofX_at (zs : List Int) (k : Nat) (hk : k < 31) : (ofX zs).take (k + 1) = (ofX zs).take k ++ [zs.getD k 0] := by
  rw [List.take_succ_eq_append_getElem (by rw [ofX_length]; exact hk)]
  simp [ofX]

theorem rof_step {w wr w1 : World} {zs : List Int} {same : Bool} {q : Option Addr} {sn sc k : Nat} {x : Int} {p' : Option Addr} {n' c' : Nat} (hk : k < 31) (h : RofInv w zs same q sn sc k wr) (hx : zs.getD k 0 = x)
    (ho : w1.ownsRow (w.heap.size + 2) 23 1 (.slice p' n' c') (k + 1) (u64s ((ofX zs).take k) ++ [.int .u64 x])) (hb : Below (w.heap.size + 2) wr w1) :
    RofInv w zs same q sn sc (k + 1) (w1.setCell ⟨w.heap.size + 1, 0, none⟩ (.slice p' n' c')) := by
  obtain ⟨h1, ⟨v, h2, h3⟩, h4, h5⟩ := h
  refine ⟨(h1.belowB hb (by omega)).other (by simp) _, ⟨_, ((h2.belowB hb (by omega)).set 0 _), ?_⟩, ?_, ?_⟩
  · rw [ofX_at _ _ hk, hx]
    have e : u64s ((ofX zs).take k ++ [x]) = u64s ((ofX zs).take k) ++ [.int .u64 x] := by simp [u64s]
    rw [e]
    exact ownsRow_setCell_below ho (by simp) _
  · exact (h4.trans (hb.mono (by omega))).setCell (by simp) _
  · have := hb.size; simp [World.setCell]; omega

set_option maxHeartbeats 800000 in
theorem rof_any (p : Option Addr) (zs : List Int) (cap : Nat) (same : Bool) (q : Option Addr) (sn sc : Nat) (w : World) (hz : zs.length ≤ 9223372036854775807)
    (hc : SrcAt w p zs) :
    Calls Try.prog 34 #[.slice p zs.length cap, .bool same, .slice q sn sc] w fun e w' => ∃ v, e = .returned (.agg #[v, .bool same, .slice q sn sc]) ∧ w'.ownsRow w.heap.size 23 1 v 31 (u64s (ofX zs)) ∧ Below w.heap.size w w' := by
  have HC := Lib.hid hc
  have HS := Lib.hid (rof_start w zs same q sn sc)
  clear hc
  go_enter Try.func34, Try.ntmps34
  go_wp2_with fail
  go_loopw [8] (fun i wr => ∃ k : Nat, k ≤ 31 ∧ i = .int .i64 k ∧ RofInv w zs same q sn sc k wr) (fun i _ => 31 - (intOf i).toNat)
  case atStart => exact ⟨0, by omega, rfl, HS.out⟩
  case round =>
    obtain ⟨k, hk, rfl, hinv⟩ := hrel
    have HI := Lib.hid hinv
    by_cases hlt : k < 31
    · obtain ⟨_, ⟨v, hB, hO⟩, hbel, hsz⟩ := hinv
      obtain ⟨p', c', rfl⟩ := own_shape hO
      have HO := Lib.hid hO
      have c0 := hB.cell 0
      have f0 := hB.free 0
      simp only [List.getElem?_cons_zero] at c0
      have HB := Lib.hid hB
      have HL := Lib.hid hbel
      clear hO hB hbel
      by_cases hl : k < zs.length
      · obtain ⟨b, off, rfl, hcell⟩ := HC.out k hl
        have hcell2 : wr.cell? ⟨b, off + k, none⟩ = some (.int .u64 (zs.getD k 0)) := by
          rw [HL.out.cell (World.block_lt_of_cell? w _ hcell)]; exact hcell
        obtain ⟨x, hx⟩ : ∃ x, zs.getD k 0 = x := ⟨_, rfl⟩
        rw [hx] at hcell2
        have HX := Lib.hid hx
        clear hx hcell
        go_wp2_with (at_builtin; refine app1 rfl _ _ 22 rfl (w.heap.size + 2) 23 (.int .u64 0) 8 elu rfl _ _ _ rfl HO.out _ rfl rfl ?c1 ?c2 hsz ?_)
        case c1 => unfold maxLen; omega
        case c2 => omega
        intro v' w1 hown' _ hb1
        obtain ⟨p2, c2, rfl⟩ := own_shape hown'
        have HO2 := Lib.hid hown'
        have HB2 := Lib.hid hb1
        have d0 : w1.cell? ⟨w.heap.size + 1, 0, none⟩ = some (.slice p' k c') := by rw [hb1.cell (by simp)]; exact c0
        have g0 : w1.frozen? ⟨w.heap.size + 1, 0, none⟩ = false := by rw [hb1.frozen (by simp)]; exact f0
        clear hown' hb1
        go_wp2
        go_roundw
        case rel => exact ⟨k + 1, by omega, by go_num, rof_step hlt HI.out HX.out HO2.out HB2.out⟩
        case measure => simp [intOf]; omega
      · have HX := Lib.hid (show zs.getD k 0 = 0 by simp [List.getD, List.getElem?_eq_none (show zs.length ≤ k by omega)])
        go_wp2_with (at_builtin; refine app1 rfl _ _ 22 rfl (w.heap.size + 2) 23 (.int .u64 0) 8 elu rfl _ _ _ rfl HO.out _ rfl rfl ?c1 ?c2 hsz ?_)
        case c1 => unfold maxLen; omega
        case c2 => omega
        intro v' w1 hown' _ hb1
        obtain ⟨p2, c2, rfl⟩ := own_shape hown'
        have HO2 := Lib.hid hown'
        have HB2 := Lib.hid hb1
        have d0 : w1.cell? ⟨w.heap.size + 1, 0, none⟩ = some (.slice p' k c') := by rw [hb1.cell (by simp)]; exact c0
        have g0 : w1.frozen? ⟨w.heap.size + 1, 0, none⟩ = false := by rw [hb1.frozen (by simp)]; exact f0
        clear hown' hb1
        go_wp2
        go_roundw
        case rel => exact ⟨k + 1, by omega, by go_num, rof_step hlt HI.out HX.out HO2.out HB2.out⟩
        case measure => simp [intOf]; omega
    · obtain rfl : k = 31 := by omega
      obtain ⟨hA, ⟨v, hB, hO⟩, hbel, hsz⟩ := hinv
      obtain ⟨p', c', rfl⟩ := own_shape hO
      have hO2 := (ownsRow_setCell_below (ownsRow_setCell_below (ownsRow_setCell_below hO (a := ⟨w.heap.size, 0, none⟩) (by simp) (.slice p' 31 c')) (a := ⟨w.heap.size, 1, none⟩) (by simp) (.bool same)) (a := ⟨w.heap.size, 2, none⟩) (by simp) (.slice q sn sc))
      have hB2 := ((hA.set 0 (.slice p' 31 c')).set 1 (.bool same)).set 2 (.slice q sn sc)
      rw [List.take_of_length_le (by rw [ofX_length]; exact Nat.le_refl _)] at hO2
      have HR := Lib.hid (ownsRow_mono hO2 (base' := w.heap.size) (by omega))
      have HZ : Hid (_) := Lib.hid hB2
      have c0 := hB.cell 0
      have c1 := hB.cell 1
      have c2 := hB.cell 2
      have a0 := hA.cell 0
      have a1 := hA.cell 1
      have a2 := hA.cell 2
      have f0 := hA.free 0
      have f1 := hA.free 1
      have f2 := hA.free 2
      simp only [List.getElem?_cons_zero, List.getElem?_cons_succ] at c0 c1 c2 a0 a1 a2
      have HL := Lib.hid (((hbel.setCell (p := ⟨w.heap.size, 0, none⟩) (Nat.le_refl _) (.slice p' 31 c')).setCell (p := ⟨w.heap.size, 1, none⟩) (Nat.le_refl _) (.bool same)).setCell (p := ⟨w.heap.size, 2, none⟩) (Nat.le_refl _) (.slice q sn sc))
      clear hO hB hbel hA hlt hk HI hO2 hB2
      go_wp2
      exact bodyPost_ret (results_cell_row rfl _ _ w.heap.size 32 #[.slice p' 31 c', .bool same, .slice q sn sc] (0, 0) _ rfl HZ.out Try.underlying32 rfl (by kernel_rfl)) rfl ⟨_, rfl, HR.out, HL.out⟩
end Go.Proofs.Ytikflhigenijdaa
