/- Any calls in any order leave the row that they should; what is put comes out in order. -/
import Derived.Test.YtckejjpillcdgaaRows
import Derived.Test.YtckejjpillcdgaaBase
import Derived.ShutString
import Derived.ChangeOld
import Derived.Lib.SmallJoins
import Derived.Test.YtckejjpillcdgaaQueueIs
import Derived.Test.YtckejjpillcdgaaOpens
import Derived.Deep.RegionHeld
import Derived.RegionTactic
namespace Go.Proofs.Ytckejjpillcdgaa.queuePlays
open Go.ChangeShapes Go.WideShapes Go.ChangeAt Go.RowKit
open Go.ChangeMaps (open_string shut_string)
set_option linter.unusedVariables false
set_option linter.unusedSimpArgs false

theorem own : ownKnob Try.prog.godebug = none := by kernel_rfl
theorem laidOut : laidOutB Try.prog = true := by kernel_rfl

/-- The calls of a script: at each place its sort and its number. -/
def OpsAt (w : World) (p : Option Addr) (n : Nat) : Prop := ∀ i, i < n → ∃ g off kind x, p = some ⟨g, off, none⟩ ∧ w.cell? ⟨g, off + i * 2, none⟩ = some (.int .i64 kind) ∧ w.cell? ⟨g, off + i * 2 + 1, none⟩ = some (.int .i64 x)
theorem OpsAt.below {w w' : World} {p : Option Addr} {n : Nat} (h : OpsAt w p n) (hb : Below w.heap.size w w') : OpsAt w' p n := fun i hi => by
  obtain ⟨g, off, kind, x, hp, h1, h2⟩ := h i hi
  exact ⟨g, off, kind, x, hp, (hb.cell (World.block_lt_of_cell? w _ h1)).trans h1, (hb.cell (World.block_lt_of_cell? w _ h2)).trans h2⟩

theorem open_ops {H : Type} {enc : TypeId × Value → H} {w : World} {base : Nat} {spare : Nat → Bool} {held : Bool} {r : Reach} {b0 : Nat} {v : Value} {d : DataW H} {ps : List MemPlace}
    (hv : Value.okWide Try.prog w r b0 34 v) (h : DataW.Trod enc Try.prog w base spare held 34 v d ps) :
    ∃ (p : Option Addr) (cap n : Nat), v = .slice p n cap ∧ n ≤ 9223372036854775807 ∧ OpsAt w p n := by
  obtain ⟨a, len, cap, rfl⟩ := okWide_slice Try.underlying34 hv
  have ho := opens_of h
  change Opens Try.prog w 34 [.slice a len cap] at ho
  rcases opens_slice Try.underlying34 ho with e | ⟨ad, len', cap', e, hlc, hcm, hi⟩
  · injection e with e
    injection e with e1 e2 e3
    subst e1 e2 e3
    exact ⟨none, 0, 0, rfl, by omega, fun i hi => by omega⟩
  · injection e with e
    injection e with e1 e2 e3
    subst e1 e2 e3
    refine ⟨some ad, cap, len, rfl, by unfold maxLen at hcm; omega, fun i hil => ?_⟩
    obtain ⟨es, hl, hc, hes⟩ := hi i hil
    have e2 : Try.prog.cellsOf 38 = 2 := by kernel_rfl
    obtain ⟨_, hf⟩ := opens_struct Try.underlying38 hes
    have f0 := hf 0 _ rfl
    have f1 := hf 1 _ rfl
    change Opens Try.prog w 3 ((es.drop 0).take (Try.prog.cellsOf 3)) at f0
    change Opens Try.prog w 3 ((es.drop 1).take (Try.prog.cellsOf 3)) at f1
    rw [show Try.prog.cellsOf 3 = 1 by kernel_rfl] at f0 f1
    rw [e2] at hl hc
    obtain ⟨y0, y1, rfl⟩ := list2 hl
    simp only [List.drop_zero, List.drop_succ_cons, List.take_succ_cons, List.take_zero] at f0 f1
    obtain ⟨kind, g0, _⟩ := opens_int Try.underlying3 f0
    obtain ⟨x, g1, _⟩ := opens_int Try.underlying3 f1
    injection g0 with g0
    injection g1 with g1
    subst g0 g1
    have c0 := hc 0 (by omega)
    have c1 := hc 1 (by omega)
    simp only [List.getElem?_cons_zero, List.getElem?_cons_succ] at c0 c1
    obtain ⟨b, off, sp⟩ := ad
    have hsp : sp = none := by
      by_cases h0 : i = 0
      · subst h0
        simp only [Addr.add, Nat.zero_mul, if_true] at c0
        unfold World.cell? at c0
        cases sp with
        | none => rfl
        | some q => split at c0 <;> simp at c0
      · have hi0 := hi 0 (by omega)
        obtain ⟨es', hl', hc', _⟩ := hi0
        rw [e2] at hl' hc'
        obtain ⟨z0, z1, rfl⟩ := list2 hl'
        have c0' := hc' 0 (by omega)
        simp only [Addr.add, Nat.zero_mul, if_true, List.getElem?_cons_zero] at c0'
        unfold World.cell? at c0'
        cases sp with
        | none => rfl
        | some q => split at c0' <;> simp at c0'
    subst hsp
    rw [addr_add, addr_add] at c0 c1
    refine ⟨b, off, kind, x, rfl, ?_, ?_⟩
    · exact c0
    · exact c1

theorem OpsAt.ck {w w' : World} {p : Option Addr} {n : Nat} (h : OpsAt w p n) (hc : CK w w') : OpsAt w' p n := fun i hi => by
  obtain ⟨g, off, kind, x, hp, h1, h2⟩ := h i hi
  exact ⟨g, off, kind, x, hp, hc.cell h1, hc.cell h2⟩
def QpInv (w : World) (p : Option Addr) (n R k : Nat) (q : Value) (wr : World) : Prop :=
  ∃ gq c room zs pL cL, q = .pointer (some ⟨gq, 0, none⟩) ∧ QRow wr 57 w.heap.size gq c room (vals_int zs) ∧ Blk wr 36 R [.slice pL zs.length cL, .int .i64 (room : Nat)] ∧ Rds wr 1 pL zs.length (vals_int zs) ∧
    Below w.heap.size w wr ∧ OpsAt wr p n ∧ ((pL = none → cL = 0) ∧ ∀ a, pL = some a → a.block ≠ R) ∧ (zs.length ≤ cL ∧ cL ≤ 9223372036854775807 ∧ zs.length ≤ room ∧ 1 ≤ room ∧ room ≤ 1000 + 100 * k)

theorem opsAt_set {w : World} {n g off R : Nat} (h : OpsAt w (some ⟨g, off, none⟩) n) (hne : g ≠ R) (j : Nat) (v : Value) : OpsAt (w.setCell ⟨R, j, none⟩ v) (some ⟨g, off, none⟩) n := fun i hi => by
  obtain ⟨g1, off1, kind, x, hp, h1, h2⟩ := h i hi
  injection hp with hp
  injection hp with e1 e2
  subst e1 e2
  have hb : ∀ o : Nat, (w.setCell ⟨R, j, none⟩ v).cell? ⟨g, o, none⟩ = w.cell? ⟨g, o, none⟩ := fun o => World.cell?_of_block (w := w) (heap_setCell_other w _ g _ hne)
  exact ⟨g, off, kind, x, rfl, (hb _).trans h1, (hb _).trans h2⟩

set_option maxRecDepth 100000 in
set_option maxHeartbeats 8000000 in
theorem walk (room : Int) (p : Option Addr) (cap n : Nat) (w : World) (_ : (Lit.int .i64 room).wf = true) (hz : n ≤ 9223372036854775807) (hs : OpsAt w p n) :
    Calls Try.prog 4 #[.int .i64 room, .slice p n cap] w fun e w' => e = .returned (.bool true) ∧ Below w.heap.size w w' := by
  have HS := Lib.hid hs
  clear hs
  by_cases hno : room < 1 ∨ 1000 < room
  · by_cases h1 : room < 1
    all_goals
      first | have h2 : room < 1 := h1 | have h2 : 1000 < room := by omega
      clear hno
      go_enter Try.func4, Try.ntmps4
      go_wp2_with fail
      refine (awake_any _).mono ?_
      rintro e w1 ⟨rfl, hb1⟩
      go_wp2
      go_ret
      exact ⟨rfl, hb1⟩
  have r1 : 1 ≤ room := by omega
  have r2 : room ≤ 1000 := by omega
  clear hno
  obtain ⟨m, rfl⟩ : ∃ m : Nat, room = m := Int.eq_ofNat_of_zero_le (by omega)
  have m1 : 1 ≤ m := by omega
  have m2 : m ≤ 1000 := by omega
  go_enter Try.func4, Try.ntmps4
  go_wp2_with fail
  refine (awake_any _).mono ?_
  rintro e w1 ⟨rfl, hb1⟩
  have HB1 := Lib.hid hb1
  clear hb1
  go_wp2_with fail
  refine (q_new_int m m1 (by omega) _).mono ?_
  rintro e w2 ⟨gq, c, rfl, hq, hb2⟩
  have HI0 := Lib.hid (show QpInv w p n w2.heap.size 0 (.pointer (some ⟨gq, 0, none⟩)) (w2.alloc (.cells #[.slice none 0 0, .int .i64 m] 36)) from ⟨gq, c, m, [], none, 0, rfl, (hq.mono HB1.out.size).below (below_alloc (Below.refl _ _) _), Blk.new _ _ _, ⟨rfl, fun h => absurd h (by simp)⟩, below_alloc (below_trans HB1.out hb2) _, HS.out.below (below_alloc (below_trans HB1.out hb2) _), ⟨fun _ => rfl, fun a e => by cases e⟩, by simp, by omega, by simp, m1, by omega⟩)
  have HBW := Lib.hid (below_trans HB1.out hb2).size
  clear hq hb2 HB1
  go_wp2_with fail
  have HRW := Lib.hid (show w.heap.size ≤ w2.heap.size from HBW.out)
  generalize w2.heap.size = R at *
  go_loopw [5, 8] (fun q i wr => ∃ k : Nat, k ≤ n ∧ k ≤ 80 ∧ i = .int .i64 k ∧ QpInv w p n R k q wr) (fun _ i _ => n - (intOf i).toNat)
  case atStart => exact ⟨0, by omega, by omega, rfl, HI0.out⟩
  case round =>
    obtain ⟨k, hkn, hk80, rfl, gq, c, room, zs, pL, cL, rfl, hq, hR, hL, hw, hp, hpn, hzc, hcm, hzr, hr1, hrm⟩ := hrel
    have HQ := Lib.hid hq
    have HR := Lib.hid hR
    have HL := Lib.hid hL
    have HW := Lib.hid hw
    have HP := Lib.hid hp
    have HPN := Lib.hid hpn
    clear hq hR hL hw hp hpn HI0
    have r0 := HR.out.cell 0
    have r1 := HR.out.cell 1
    simp only [List.getElem?_cons_zero, List.getElem?_cons_succ] at r0 r1
    by_cases hlt : k < n ∧ k < 80
    · obtain ⟨hkn', hk80'⟩ := hlt
      obtain ⟨g, off, kind, x, rfl, o0, o1⟩ := HP.out k hkn'
      have hRO : R < wr.heap.size := HR.out.lt
      have hGO : g < wr.heap.size := World.block_lt_of_cell? wr _ o0
      have hgR : g ≠ R := by
        obtain ⟨g1, off1, _, _, hp1, h1, _⟩ := HS.out k hkn'
        injection hp1 with hp1
        injection hp1 with e1 _ _
        have h2 : g1 < w.heap.size := World.block_lt_of_cell? w _ h1
        have := HRW.out
        omega
      have hRw : w.heap.size ≤ R := HRW.out
      by_cases k0 : kind = 0
      · subst k0
        have hOx := below_alloc (Below.refl wr.heap.size wr) (.cells #[.int .i64 0, .int .i64 x] 38)
        have HQ := Lib.hid (HQ.out.below hOx)
        have HR := Lib.hid (HR.out.below hOx)
        have HL := Lib.hid (HL.out.below hOx)
        have HW := Lib.hid (below_trans HW.out hOx)
        have HP := Lib.hid (HP.out.below hOx)
        have HO := Lib.hid (Blk.new wr 38 [.int .i64 0, .int .i64 x])
        have HRO := Lib.hid hRO
        have HGO := Lib.hid hGO
        clear hOx
        go_wp2_with fail
        by_cases hroom : zs.length < room
        · refine (rput_room pL zs cL room x _ HL.out HPN.out.1 (by omega) (by omega)).mono ?_
          rintro e w2 ⟨g', c', rfl, hrd, hc1, hc2, hg', hb2⟩
          have HRD := Lib.hid hrd
          have HO := Lib.hid (HO.out.below hb2)
          have HQ := Lib.hid (HQ.out.below hb2)
          have HR := Lib.hid (HR.out.below hb2)
          have HL := Lib.hid (HL.out.below hb2)
          have HW := Lib.hid (below_trans HW.out hb2)
          have HP := Lib.hid (HP.out.below hb2)
          have HNE := Lib.hid (show ∀ a, (some ⟨g', 0, none⟩ : Option Addr) = some a → a.block ≠ R from fun a e => by injection e with e; rw [← e]; have := HRO.out; simp at hg'; simp; omega)
          have HSZ := Lib.hid (show R < w2.heap.size from HR.out.lt)
          clear hrd hg' hb2
          have o1' := cell_alloc (show w2.cell? ⟨wr.heap.size, 1, none⟩ = some (.int .i64 x) from HO.out.cell 1) (.cells #[.slice (some ⟨g', 0, none⟩) (zs.length + 1) c', .int .i64 (room : Nat)] 36)
          go_wp2_with fail
          have hb3 := below_alloc (Below.refl w2.heap.size w2) (.cells #[.slice (some ⟨g', 0, none⟩) (zs.length + 1) c', .int .i64 (room : Nat)] 36)
          have HQ := Lib.hid (HQ.out.below hb3)
          have HR := Lib.hid (HR.out.below hb3)
          have HL := Lib.hid (HL.out.below hb3)
          have HW := Lib.hid (below_trans HW.out hb3)
          have HP := Lib.hid (HP.out.below hb3)
          have HRD := Lib.hid (HRD.out.below hb3)
          have HNB := Lib.hid (Blk.new w2 36 [.slice (some ⟨g', 0, none⟩) (zs.length + 1) c', .int .i64 (room : Nat)])
          clear hb3 o1'
          refine (q_put_int x HQ.out (by rw [vals_len_int]; exact hroom)).mono ?_
          rintro e w4 ⟨rfl, hq4, hg4⟩
          have hck := HQ.out.ck hg4
          have HR := Lib.hid (hck.blk HR.out)
          have HL := Lib.hid (HL.out.ck hck)
          have HW := Lib.hid (HW.out.trans (HQ.out.belowB hg4))
          have HP := Lib.hid (HP.out.ck hck)
          have HQ := Lib.hid hq4
          have HNB := Lib.hid (hck.blk HNB.out)
          have HLN := Lib.hid (HRD.out.ck hck)
          clear hq4 hg4 hck r0 r1
          have r0 := HR.out.cell 0
          have r1 := HR.out.cell 1
          simp only [List.getElem?_cons_zero, List.getElem?_cons_succ] at r0 r1
          have fr0 := HR.out.free 0
          have fr1 := HR.out.free 1
          have n0 := HNB.out.cell 0
          have n1 := HNB.out.cell 1
          simp only [List.getElem?_cons_zero, List.getElem?_cons_succ] at n0 n1
          have hne := HSZ.out
          have hne1 : w2.heap.size ≠ R := by omega
          have hne2 : R ≠ w2.heap.size := by omega
          go_wp2_with fail
          have HQ := Lib.hid ((HQ.out.setBlk HR.out (by decide) 0 (.slice (some ⟨g', 0, none⟩) (zs.length + 1) c')).setBlk (HR.out.set 0 (.slice (some ⟨g', 0, none⟩) (zs.length + 1) c')) (by decide) 1 (.int .i64 (room : Nat)))
          have HW := Lib.hid ((HW.out.setCell (p := ⟨R, 0, none⟩) hRw (.slice (some ⟨g', 0, none⟩) (zs.length + 1) c')).setCell (p := ⟨R, 1, none⟩) hRw (.int .i64 (room : Nat)))
          have HP := Lib.hid (opsAt_set (opsAt_set HP.out hgR 0 (.slice (some ⟨g', 0, none⟩) (zs.length + 1) c')) hgR 1 (.int .i64 (room : Nat)))
          have HL := Lib.hid ((HLN.out.setBlk HNE.out 0 (.slice (some ⟨g', 0, none⟩) (zs.length + 1) c')).setBlk HNE.out 1 (.int .i64 (room : Nat)))
          have HR := Lib.hid ((HR.out.set 0 (.slice (some ⟨g', 0, none⟩) (zs.length + 1) c')).set 1 (.int .i64 (room : Nat)))
          have hvl : (vals_int zs ++ [Value.int .i64 x]).length = zs.length + 1 := by rw [List.length_append, vals_len_int]; rfl
          refine (is_true (some ⟨g', 0, none⟩) (zs.length + 1) c' HQ.out hvl (by omega) (by omega)).mono ?_
          rintro e w9 ⟨rfl, hb9⟩
          have HN := Lib.hid (show QpInv w (some ⟨g, off, none⟩) n R (k + 1) (.pointer (some ⟨gq, 0, none⟩)) w9 from ⟨gq, c, room, (zs ++ [x]), (some ⟨g', 0, none⟩), c', rfl, (show QRow w9 57 w.heap.size gq c room (vals_int (zs ++ [x])) from by rw [vals_snoc_int]; exact HQ.out.below hb9), (by rw [List.length_append]; exact HR.out.below hb9), (by rw [List.length_append]; exact HL.out.below hb9), below_trans HW.out hb9, HP.out.below hb9, ⟨fun e => (by cases e), HNE.out⟩, ⟨by simp; omega, hc2, by simp; omega, hr1, by omega⟩⟩)
          clear hb9
          go_wp2_with fail
          go_roundw
          case rel => exact ⟨k + 1, by omega, by omega, by go_num, HN.out⟩
          case measure => simp [intOf]; omega
        · have hfull : room ≤ zs.length := by omega
          refine (rput_full pL zs.length cL room x _ (by omega) (by omega)).mono ?_
          rintro e w2 ⟨rfl, hb2⟩
          have HO := Lib.hid (HO.out.below hb2)
          have HQ := Lib.hid (HQ.out.below hb2)
          have HR := Lib.hid (HR.out.below hb2)
          have HL := Lib.hid (HL.out.below hb2)
          have HW := Lib.hid (below_trans HW.out hb2)
          have HP := Lib.hid (HP.out.below hb2)
          have HSZ := Lib.hid (show R < w2.heap.size from HR.out.lt)
          clear hb2
          have o1' := cell_alloc (show w2.cell? ⟨wr.heap.size, 1, none⟩ = some (.int .i64 x) from HO.out.cell 1) (.cells #[.slice pL zs.length cL, .int .i64 (room : Nat)] 36)
          go_wp2_with fail
          have hb3 := below_alloc (Below.refl w2.heap.size w2) (.cells #[.slice pL zs.length cL, .int .i64 (room : Nat)] 36)
          have HQ := Lib.hid (HQ.out.below hb3)
          have HR := Lib.hid (HR.out.below hb3)
          have HL := Lib.hid (HL.out.below hb3)
          have HW := Lib.hid (below_trans HW.out hb3)
          have HP := Lib.hid (HP.out.below hb3)
          have HNB := Lib.hid (Blk.new w2 36 [.slice pL zs.length cL, .int .i64 (room : Nat)])
          clear hb3 o1'
          have HNE := Lib.hid HPN.out.2
          refine (q_full_int x HQ.out (by rw [vals_len_int]; exact hfull)).mono ?_
          rintro e w4 ⟨rfl, rfl⟩
          generalize w2.alloc (.cells #[.slice pL zs.length cL, .int .i64 (room : Nat)] 36) = w4 at *
          clear r0 r1
          have r0 := HR.out.cell 0
          have r1 := HR.out.cell 1
          simp only [List.getElem?_cons_zero, List.getElem?_cons_succ] at r0 r1
          have fr0 := HR.out.free 0
          have fr1 := HR.out.free 1
          have n0 := HNB.out.cell 0
          have n1 := HNB.out.cell 1
          simp only [List.getElem?_cons_zero, List.getElem?_cons_succ] at n0 n1
          have hne := HSZ.out
          have hne1 : w2.heap.size ≠ R := by omega
          have hne2 : R ≠ w2.heap.size := by omega
          go_wp2_with fail
          have HQ := Lib.hid ((HQ.out.setBlk HR.out (by decide) 0 (.slice pL zs.length cL)).setBlk (HR.out.set 0 (.slice pL zs.length cL)) (by decide) 1 (.int .i64 (room : Nat)))
          have HW := Lib.hid ((HW.out.setCell (p := ⟨R, 0, none⟩) hRw (.slice pL zs.length cL)).setCell (p := ⟨R, 1, none⟩) hRw (.int .i64 (room : Nat)))
          have HP := Lib.hid (opsAt_set (opsAt_set HP.out hgR 0 (.slice pL zs.length cL)) hgR 1 (.int .i64 (room : Nat)))
          have HL := Lib.hid ((HL.out.setBlk HNE.out 0 (.slice pL zs.length cL)).setBlk HNE.out 1 (.int .i64 (room : Nat)))
          have HR := Lib.hid ((HR.out.set 0 (.slice pL zs.length cL)).set 1 (.int .i64 (room : Nat)))
          refine (is_true pL zs.length cL HQ.out (vals_len_int _) (by omega) (by omega)).mono ?_
          rintro e w9 ⟨rfl, hb9⟩
          have HN := Lib.hid (show QpInv w (some ⟨g, off, none⟩) n R (k + 1) (.pointer (some ⟨gq, 0, none⟩)) w9 from ⟨gq, c, room, zs, pL, cL, rfl, HQ.out.below hb9, HR.out.below hb9, HL.out.below hb9, below_trans HW.out hb9, HP.out.below hb9, HPN.out, ⟨hzc, hcm, hzr, hr1, by omega⟩⟩)
          clear hb9
          go_wp2_with fail
          go_roundw
          case rel => exact ⟨k + 1, by omega, by omega, by go_num, HN.out⟩
          case measure => simp [intOf]; omega
      by_cases k1 : kind = 1
      · subst k1
        have hOx := below_alloc (Below.refl wr.heap.size wr) (.cells #[.int .i64 1, .int .i64 x] 38)
        have HQ := Lib.hid (HQ.out.below hOx)
        have HR := Lib.hid (HR.out.below hOx)
        have HL := Lib.hid (HL.out.below hOx)
        have HW := Lib.hid (below_trans HW.out hOx)
        have HP := Lib.hid (HP.out.below hOx)
        have HO := Lib.hid (Blk.new wr 38 [.int .i64 1, .int .i64 x])
        have HRO := Lib.hid hRO
        clear hOx
        go_wp2_with fail
        cases zs with
        | nil =>
          refine (rtake_none pL cL room _).mono ?_
          rintro e w2 ⟨rfl, hb2⟩
          have HO := Lib.hid (HO.out.below hb2)
          have HQ := Lib.hid (HQ.out.below hb2)
          have HR := Lib.hid (HR.out.below hb2)
          have HL := Lib.hid (HL.out.below hb2)
          have HW := Lib.hid (below_trans HW.out hb2)
          have HP := Lib.hid (HP.out.below hb2)
          have HSZ := Lib.hid (show R < w2.heap.size from HR.out.lt)
          clear hb2
          have o1' := cell_alloc (show w2.cell? ⟨wr.heap.size, 1, none⟩ = some (.int .i64 x) from HO.out.cell 1) (.cells #[.slice pL 0 cL, .int .i64 (room : Nat)] 36)
          go_wp2_with fail
          have hb3 := below_alloc (Below.refl w2.heap.size w2) (.cells #[.slice pL 0 cL, .int .i64 (room : Nat)] 36)
          have HQ := Lib.hid (HQ.out.below hb3)
          have HR := Lib.hid (HR.out.below hb3)
          have HL := Lib.hid (HL.out.below hb3)
          have HW := Lib.hid (below_trans HW.out hb3)
          have HP := Lib.hid (HP.out.below hb3)
          have HNB := Lib.hid (Blk.new w2 36 [.slice pL 0 cL, .int .i64 (room : Nat)])
          clear hb3 o1'
          have HNE := Lib.hid HPN.out.2
          refine (q_none_int HQ.out).mono ?_
          rintro e w4 ⟨rfl, rfl⟩
          generalize w2.alloc (.cells #[.slice pL 0 cL, .int .i64 (room : Nat)] 36) = w4 at *
          clear r0 r1
          have r0 := HR.out.cell 0
          have r1 := HR.out.cell 1
          simp only [List.getElem?_cons_zero, List.getElem?_cons_succ] at r0 r1
          have fr0 := HR.out.free 0
          have fr1 := HR.out.free 1
          have n0 := HNB.out.cell 0
          have n1 := HNB.out.cell 1
          simp only [List.getElem?_cons_zero, List.getElem?_cons_succ] at n0 n1
          have hne := HSZ.out
          have hne1 : w2.heap.size ≠ R := by omega
          have hne2 : R ≠ w2.heap.size := by omega
          go_wp2_with fail
          have HQ := Lib.hid ((HQ.out.setBlk HR.out (by decide) 0 (.slice pL 0 cL)).setBlk (HR.out.set 0 (.slice pL 0 cL)) (by decide) 1 (.int .i64 (room : Nat)))
          have HW := Lib.hid ((HW.out.setCell (p := ⟨R, 0, none⟩) hRw (.slice pL 0 cL)).setCell (p := ⟨R, 1, none⟩) hRw (.int .i64 (room : Nat)))
          have HP := Lib.hid (opsAt_set (opsAt_set HP.out hgR 0 (.slice pL 0 cL)) hgR 1 (.int .i64 (room : Nat)))
          have HL := Lib.hid ((HL.out.setBlk HNE.out 0 (.slice pL 0 cL)).setBlk HNE.out 1 (.int .i64 (room : Nat)))
          have HR := Lib.hid ((HR.out.set 0 (.slice pL 0 cL)).set 1 (.int .i64 (room : Nat)))
          refine (is_true pL 0 cL HQ.out rfl (by omega) (by omega)).mono ?_
          rintro e w9 ⟨rfl, hb9⟩
          have HN := Lib.hid (show QpInv w (some ⟨g, off, none⟩) n R (k + 1) (.pointer (some ⟨gq, 0, none⟩)) w9 from ⟨gq, c, room, [], pL, cL, rfl, HQ.out.below hb9, HR.out.below hb9, HL.out.below hb9, below_trans HW.out hb9, HP.out.below hb9, HPN.out, ⟨hzc, hcm, hzr, hr1, by omega⟩⟩)
          clear hb9
          go_wp2_with fail
          go_roundw
          case rel => exact ⟨k + 1, by omega, by omega, by go_num, HN.out⟩
          case measure => simp [intOf]; omega
        | cons z rest =>
          refine (rtake_any pL z rest cL room _ HL.out hzc hcm).mono ?_
          rintro e w2 ⟨ad, c', rfl, hrd, hblk, hc1, hc2, hb2⟩
          have HRD := Lib.hid hrd
          have HNE := Lib.hid (show ∀ a, (some ad : Option Addr) = some a → a.block ≠ R from fun a e => by
            injection e with e
            subst e
            obtain ⟨g0, off0, hp0, _⟩ := HL.out.2 (by simp)
            rw [hblk _ hp0]
            exact HPN.out.2 _ hp0)
          clear hrd hblk
          have HO := Lib.hid (HO.out.below hb2)
          have HQ := Lib.hid (HQ.out.below hb2)
          have HR := Lib.hid (HR.out.below hb2)
          have HL := Lib.hid (HL.out.below hb2)
          have HW := Lib.hid (below_trans HW.out hb2)
          have HP := Lib.hid (HP.out.below hb2)
          have HSZ := Lib.hid (show R < w2.heap.size from HR.out.lt)
          clear hb2
          have o1' := cell_alloc (show w2.cell? ⟨wr.heap.size, 1, none⟩ = some (.int .i64 x) from HO.out.cell 1) (.cells #[.slice (some ad) rest.length c', .int .i64 (room : Nat)] 36)
          go_wp2_with fail
          have hb3 := below_alloc (Below.refl w2.heap.size w2) (.cells #[.slice (some ad) rest.length c', .int .i64 (room : Nat)] 36)
          have HQ := Lib.hid (HQ.out.below hb3)
          have HR := Lib.hid (HR.out.below hb3)
          have HL := Lib.hid (HL.out.below hb3)
          have HW := Lib.hid (below_trans HW.out hb3)
          have HP := Lib.hid (HP.out.below hb3)
          have HRD := Lib.hid (HRD.out.below hb3)
          have HNB := Lib.hid (Blk.new w2 36 [.slice (some ad) rest.length c', .int .i64 (room : Nat)])
          clear hb3 o1'
          refine (q_take_int z HQ.out).mono ?_
          rintro e w4 ⟨rfl, hq4, hg4⟩
          have hck := HQ.out.ck hg4
          have HR := Lib.hid (hck.blk HR.out)
          have HL := Lib.hid (HL.out.ck hck)
          have HW := Lib.hid (HW.out.trans (HQ.out.belowB hg4))
          have HP := Lib.hid (HP.out.ck hck)
          have HQ := Lib.hid hq4
          have HNB := Lib.hid (hck.blk HNB.out)
          have HLN := Lib.hid (HRD.out.ck hck)
          clear hq4 hg4 hck
          clear r0 r1
          have r0 := HR.out.cell 0
          have r1 := HR.out.cell 1
          simp only [List.getElem?_cons_zero, List.getElem?_cons_succ] at r0 r1
          have fr0 := HR.out.free 0
          have fr1 := HR.out.free 1
          have n0 := HNB.out.cell 0
          have n1 := HNB.out.cell 1
          simp only [List.getElem?_cons_zero, List.getElem?_cons_succ] at n0 n1
          have hne := HSZ.out
          have hne1 : w2.heap.size ≠ R := by omega
          have hne2 : R ≠ w2.heap.size := by omega
          go_wp2_with fail
          have HQ := Lib.hid ((HQ.out.setBlk HR.out (by decide) 0 (.slice (some ad) rest.length c')).setBlk (HR.out.set 0 (.slice (some ad) rest.length c')) (by decide) 1 (.int .i64 (room : Nat)))
          have HW := Lib.hid ((HW.out.setCell (p := ⟨R, 0, none⟩) hRw (.slice (some ad) rest.length c')).setCell (p := ⟨R, 1, none⟩) hRw (.int .i64 (room : Nat)))
          have HP := Lib.hid (opsAt_set (opsAt_set HP.out hgR 0 (.slice (some ad) rest.length c')) hgR 1 (.int .i64 (room : Nat)))
          have HL := Lib.hid ((HLN.out.setBlk HNE.out 0 (.slice (some ad) rest.length c')).setBlk HNE.out 1 (.int .i64 (room : Nat)))
          have HR := Lib.hid ((HR.out.set 0 (.slice (some ad) rest.length c')).set 1 (.int .i64 (room : Nat)))
          refine (is_true (some ad) rest.length c' HQ.out (vals_len_int _) (by simp at hzr; omega) (by omega)).mono ?_
          rintro e w9 ⟨rfl, hb9⟩
          have HN := Lib.hid (show QpInv w (some ⟨g, off, none⟩) n R (k + 1) (.pointer (some ⟨gq, 0, none⟩)) w9 from ⟨gq, c, room, rest, (some ad), c', rfl, HQ.out.below hb9, HR.out.below hb9, HL.out.below hb9, below_trans HW.out hb9, HP.out.below hb9, ⟨fun e => (by cases e), HNE.out⟩, ⟨hc1, hc2, by simp at hzr; omega, hr1, by omega⟩⟩)
          clear hb9
          go_wp2_with fail
          go_roundw
          case rel => exact ⟨k + 1, by omega, by omega, by go_num, HN.out⟩
          case measure => simp [intOf]; omega
      by_cases k2 : kind = 2
      · subst k2
        have hOx := below_alloc (Below.refl wr.heap.size wr) (.cells #[.int .i64 2, .int .i64 x] 38)
        have HQ := Lib.hid (HQ.out.below hOx)
        have HR := Lib.hid (HR.out.below hOx)
        have HL := Lib.hid (HL.out.below hOx)
        have HW := Lib.hid (below_trans HW.out hOx)
        have HP := Lib.hid (HP.out.below hOx)
        have HO := Lib.hid (Blk.new wr 38 [.int .i64 2, .int .i64 x])
        have HRO := Lib.hid hRO
        clear hOx
        go_wp2_with fail
        generalize wr.alloc (.cells #[.int .i64 2, .int .i64 x] 38) = w1 at *
        have HQ := Lib.hid (show QRow w1.drew 57 w.heap.size gq c room (vals_int zs) from HQ.out)
        have HR := Lib.hid (show Blk w1.drew 36 R [.slice pL zs.length cL, .int .i64 (room : Nat)] from HR.out)
        have HL := Lib.hid (show Rds w1.drew 1 pL zs.length (vals_int zs) from HL.out)
        have HW := Lib.hid (HW.out.drew)
        have HP := Lib.hid (show OpsAt w1.drew (some ⟨g, off, none⟩) n from HP.out)
        refine wp_region_held_drew (S := (fun w' => w'.cell? ⟨R, 0, none⟩ = some (.slice pL zs.length cL))) (by kernel_rfl) (by (try dsimp only); exact HR.out.cell 0) (fun hHeld => ?_)
        refine wpAnyH_take (i := 0) (oi := ⟨some 92, _, _, _, _, _⟩) (v := ?_) rfl (by kernel_rfl) (by kernel_rfl) (by kernel_rfl) (fun _ _ _ h => h) (Or.inl ⟨by rfl, ?_⟩) (by assumption) ?_
        rotate_left
        · (intro w hSw; (try dsimp only at hSw); go_simp; try with_reducible rfl)
        simp only [Act.put, List.setIfInBounds_toArray, List.set_cons_zero, List.set_cons_succ]
        refine wpAnyH_take (i := 2) (oi := ⟨some 94, _, _, _, _, _⟩) (v := ?_) rfl (by kernel_rfl) (by kernel_rfl) (by kernel_rfl) (fun _ _ _ h => h) (Or.inl ⟨by rfl, ?_⟩) (by assumption) ?_
        rotate_left
        · (intro w hSw; (try dsimp only at hSw); go_simp; try with_reducible rfl)
        simp only [Act.put, List.setIfInBounds_toArray, List.set_cons_zero, List.set_cons_succ]
        refine wpAnyH_take (i := 3) (oi := ⟨some 95, _, _, _, _, _⟩) (v := ?_) rfl (by kernel_rfl) (by kernel_rfl) (by kernel_rfl) (fun _ _ _ h => h) (Or.inl ⟨by rfl, ?_⟩) (by assumption) ?_
        rotate_left
        · (intro w hSw; (try dsimp only at hSw); go_simp; try with_reducible rfl)
        simp only [Act.put, List.setIfInBounds_toArray, List.set_cons_zero, List.set_cons_succ]
        refine wpAnyH_ready (rs := [1]) (by kernel_rfl) (by simp) ?_
        refine AllReadyH.cons (o := ⟨some 93, _, _, _, _, _⟩) rfl (fun K hK => ?_) AllReadyH.nil
        go_simp
        go_at_call 11; refine (q_drain_int zs HQ.out (by omega)).mono ?_; rintro e w3 ⟨v3, rfl, ho3, hq3, hg3⟩; obtain ⟨p3, c3, rfl, hr3, _, _⟩ := Rds.of_read (readRow_own ho3); have hck := HQ.out.ck hg3; have HR := Lib.hid (hck.blk HR.out); have HL := Lib.hid (HL.out.ck hck); have HW := Lib.hid (HW.out.trans (HQ.out.belowB hg3)); have HP := Lib.hid (HP.out.ck hck); have HQ := Lib.hid hq3; have HR3 := Lib.hid hr3; clear ho3 hq3 hg3 hck hr3
        refine hK.out _ _ (by (try dsimp only); exact HR.out.cell 0) ?_
        clear hK K hHeld
        intro hHeld
        try simp only [Act.put, List.setIfInBounds_toArray, List.set_cons_zero, List.set_cons_succ]
        refine wpAnyH_ready (rs := [4]) (by kernel_rfl) (by simp) ?_
        refine AllReadyH.cons (o := ⟨some 96, _, _, _, _, _⟩) rfl (fun K hK => ?_) AllReadyH.nil
        go_simp
        go_at_call 10; refine (same_true zs p3 pL c3 cL _ (by omega) HR3.out HL.out).mono ?_; rintro e w4 ⟨rfl, m4, rfl⟩; have HQ := Lib.hid (HQ.out.dn m4); have HR := Lib.hid (HR.out.dn m4); have HL := Lib.hid (HL.out.dn m4); have HW := Lib.hid (below_drewN HW.out m4); have HP := Lib.hid (show OpsAt (w3.drewN m4) (some ⟨g, off, none⟩) n from HP.out)
        refine hK.out _ _ (by (try dsimp only); exact HR.out.cell 0) ?_
        clear hK K hHeld
        intro hHeld
        try simp only [Act.put, List.setIfInBounds_toArray, List.set_cons_zero, List.set_cons_succ]
        refine wpAnyH_take (i := 5) (oi := ⟨some 97, _, _, _, _, _⟩) (v := ?_) rfl (by kernel_rfl) (by kernel_rfl) (by kernel_rfl) (fun _ _ _ h => h) (Or.inl ⟨by rfl, ?_⟩) (by assumption) ?_
        rotate_left
        · (intro w hSw; (try dsimp only at hSw); go_simp; try with_reducible rfl)
        simp only [Act.put, List.setIfInBounds_toArray, List.set_cons_zero, List.set_cons_succ]
        refine wpAnyH_done (by kernel_rfl) ?_ _
        clear r0 r1
        have r0 := HR.out.cell 0
        have r1 := HR.out.cell 1
        simp only [List.getElem?_cons_zero, List.getElem?_cons_succ] at r0 r1
        have fr0 := HR.out.free 0
        go_wp2_with fail
        have HQ := Lib.hid (HQ.out.setBlk HR.out (by decide) 0 (.slice none 0 0))
        have HW := Lib.hid (HW.out.setCell (p := ⟨R, 0, none⟩) hRw (.slice none 0 0))
        have HP := Lib.hid (opsAt_set HP.out hgR 0 (.slice none 0 0))
        have HR := Lib.hid (HR.out.set 0 (.slice none 0 0))
        refine (is_true none 0 0 HQ.out rfl (by omega) (by omega)).mono ?_
        rintro e w9 ⟨rfl, hb9⟩
        have HN := Lib.hid (show QpInv w (some ⟨g, off, none⟩) n R (k + 1) (.pointer (some ⟨gq, 0, none⟩)) w9 from ⟨gq, c, room, [], none, 0, rfl, HQ.out.below hb9, HR.out.below hb9, ⟨rfl, fun h => absurd h (by simp)⟩, below_trans HW.out hb9, HP.out.below hb9, ⟨fun _ => rfl, fun a e => (by cases e)⟩, ⟨by simp, by omega, by simp, hr1, by omega⟩⟩)
        clear hb9
        go_wp2_with fail
        go_roundw
        case rel => exact ⟨k + 1, by omega, by omega, by go_num, HN.out⟩
        case measure => simp [intOf]; omega
      by_cases k3 : kind = 3
      · subst k3
        by_cases hx : x < 0 ∨ 100 < x
        · by_cases hx0 : x < 0
          all_goals
            first | have hx1 : x < 0 := hx0 | have hx1 : 100 < x := by omega
            clear hx
            have hOx := below_alloc (Below.refl wr.heap.size wr) (.cells #[.int .i64 3, .int .i64 x] 38)
            have HQ := Lib.hid (HQ.out.below hOx)
            have HR := Lib.hid (HR.out.below hOx)
            have HL := Lib.hid (HL.out.below hOx)
            have HW := Lib.hid (below_trans HW.out hOx)
            have HP := Lib.hid (HP.out.below hOx)
            have HO := Lib.hid (Blk.new wr 38 [.int .i64 3, .int .i64 x])
            have HRO := Lib.hid hRO
            clear hOx
            have HN := Lib.hid (show QpInv w (some ⟨g, off, none⟩) n R (k + 1) (.pointer (some ⟨gq, 0, none⟩)) (wr.alloc (.cells #[.int .i64 3, .int .i64 x] 38)) from ⟨gq, c, room, zs, pL, cL, rfl, HQ.out, HR.out, HL.out, HW.out, HP.out, HPN.out, hzc, hcm, hzr, hr1, by omega⟩)
            go_wp2_with fail
            go_roundw
            case rel => exact ⟨k + 1, by omega, by omega, by go_num, HN.out⟩
            case measure => simp [intOf]; omega
        · have hx0 : 0 ≤ x := by omega
          have hx1 : x ≤ 100 := by omega
          clear hx
          obtain ⟨xn, rfl⟩ : ∃ xn : Nat, x = xn := Int.eq_ofNat_of_zero_le hx0
          have hOx := below_alloc (Below.refl wr.heap.size wr) (.cells #[.int .i64 3, .int .i64 (xn : Nat)] 38)
          have HQ := Lib.hid (HQ.out.below hOx)
          have HR := Lib.hid (HR.out.below hOx)
          have HL := Lib.hid (HL.out.below hOx)
          have HW := Lib.hid (below_trans HW.out hOx)
          have HP := Lib.hid (HP.out.below hOx)
          have HO := Lib.hid (Blk.new wr 38 [.int .i64 3, .int .i64 (xn : Nat)])
          have HRO := Lib.hid hRO
          clear hOx
          go_wp2_with fail
          refine (q_grown_int xn zs HQ.out (by omega) hr1 (by omega)).mono ?_
          rintro e w3 ⟨gq2, c2, rfl, hq3, hq4, hg3⟩
          have HQ2 := Lib.hid hq3
          have HO := Lib.hid ((HQ.out.ck hg3).blk HO.out)
          have hck := HQ.out.ck hg3
          have HR := Lib.hid (hck.blk HR.out)
          have HL := Lib.hid (HL.out.ck hck)
          have HW := Lib.hid (HW.out.trans (HQ.out.belowB hg3))
          have HP := Lib.hid (HP.out.ck hck)
          have HQ := Lib.hid hq4
          clear hq3 hq4 hg3 hck
          go_wp2_with fail
          refine (q_len_int HQ.out (by omega) (by simp)).mono ?_
          rintro e w5 ⟨rfl, rfl⟩
          clear r0 r1
          have r0 := HR.out.cell 0
          have r1 := HR.out.cell 1
          simp only [List.getElem?_cons_zero, List.getElem?_cons_succ] at r0 r1
          have fr1 := HR.out.free 1
          have o1' := HO.out.cell 1
          simp only [List.getElem?_cons_zero, List.getElem?_cons_succ] at o1'
          have E1 := Lib.hid (show ((room : Int) + xn) = ((room + xn : Nat) : Int) by omega)
          have b1 : (room : Int) ≤ 9000 := by omega
          have b0 : (0 : Int) ≤ room := by omega
          have HQ := Lib.hid (HQ2.out.setBlk HR.out (by decide) 1 (.int .i64 ((room + xn : Nat) : Int)))
          have HW := Lib.hid (HW.out.setCell (p := ⟨R, 1, none⟩) hRw (.int .i64 ((room + xn : Nat) : Int)))
          have HP := Lib.hid (opsAt_set HP.out hgR 1 (.int .i64 ((room + xn : Nat) : Int)))
          have HL := Lib.hid (HL.out.setBlk HPN.out.2 1 (.int .i64 ((room + xn : Nat) : Int)))
          have HRR := Lib.hid (HR.out.set 1 (.int .i64 ((room + xn : Nat) : Int)))
          go_wp2_with fail
          go_region
          go_wp2_with fail
          rw [E1.out]
          have HQ := Lib.hid (show QRow (w3.setCell ⟨R, 1, none⟩ (.int .i64 ((room + xn : Nat) : Int))).drew 57 w.heap.size gq2 c2 (room + xn) (vals_int zs) from HQ.out)
          have HR := Lib.hid (show Blk (w3.setCell ⟨R, 1, none⟩ (.int .i64 ((room + xn : Nat) : Int))).drew 36 R [.slice pL zs.length cL, .int .i64 ((room + xn : Nat) : Int)] from HRR.out)
          have HL := Lib.hid (show Rds (w3.setCell ⟨R, 1, none⟩ (.int .i64 ((room + xn : Nat) : Int))).drew 1 pL zs.length (vals_int zs) from HL.out)
          have HW := Lib.hid (show Below w.heap.size w (w3.setCell ⟨R, 1, none⟩ (.int .i64 ((room + xn : Nat) : Int))).drew from HW.out.drew)
          have HP := Lib.hid (show OpsAt (w3.setCell ⟨R, 1, none⟩ (.int .i64 ((room + xn : Nat) : Int))).drew (some ⟨g, off, none⟩) n from HP.out)
          refine (is_true pL zs.length cL HQ.out (vals_len_int _) (by omega) (by omega)).mono ?_
          rintro e w9 ⟨rfl, hb9⟩
          have HN := Lib.hid (show QpInv w (some ⟨g, off, none⟩) n R (k + 1) (.pointer (some ⟨gq2, 0, none⟩)) w9 from ⟨gq2, c2, room + xn, zs, pL, cL, rfl, HQ.out.below hb9, HR.out.below hb9, HL.out.below hb9, below_trans HW.out hb9, HP.out.below hb9, HPN.out, hzc, hcm, by omega, by omega, by omega⟩)
          clear hb9
          go_wp2_with fail
          go_roundw
          case rel => exact ⟨k + 1, by omega, by omega, by go_num, HN.out⟩
          case measure => simp [intOf]; omega
      have e0 : (kind == 0) = false := beq_eq_false_iff_ne.2 k0
      have e1 : (kind == 1) = false := beq_eq_false_iff_ne.2 k1
      have e2 : (kind == 2) = false := beq_eq_false_iff_ne.2 k2
      have e3 : (kind == 3) = false := beq_eq_false_iff_ne.2 k3
      have hOx := below_alloc (Below.refl wr.heap.size wr) (.cells #[.int .i64 kind, .int .i64 x] 38)
      have HQ := Lib.hid (HQ.out.below hOx)
      have HR := Lib.hid (HR.out.below hOx)
      have HL := Lib.hid (HL.out.below hOx)
      have HW := Lib.hid (below_trans HW.out hOx)
      have HP := Lib.hid (HP.out.below hOx)
      have HO := Lib.hid (Blk.new wr 38 [.int .i64 kind, .int .i64 x])
      have HRO := Lib.hid hRO
      have HGO := Lib.hid hGO
      clear hOx
      go_wp2_with fail
      refine (is_true pL zs.length cL HQ.out (vals_len_int _) (by omega) (by omega)).mono ?_
      rintro e w9 ⟨rfl, hb9⟩
      have HN := Lib.hid (show QpInv w (some ⟨g, off, none⟩) n R (k + 1) (.pointer (some ⟨gq, 0, none⟩)) w9 from ⟨gq, c, room, zs, pL, cL, rfl, HQ.out.below hb9, HR.out.below hb9, HL.out.below hb9, below_trans HW.out hb9, HP.out.below hb9, HPN.out, ⟨hzc, hcm, hzr, hr1, by omega⟩⟩)
      clear hb9
      go_wp2_with fail
      go_roundw
      case rel => exact ⟨k + 1, by omega, by omega, by go_num, HN.out⟩
      case measure => simp [intOf]; omega
    · have HPp := HP
      by_cases hk : k < n
      all_goals
        first | have hc1 : 80 ≤ k := by omega | have hc1 : n ≤ k := by omega
        first | (have hc2 : (80 : Int) ≤ k := by omega) | skip
        clear hlt
        go_wp2_with fail
        have HQ := Lib.hid (show QRow wr.drew 57 w.heap.size gq c room (vals_int zs) from HQ.out)
        have HR := Lib.hid (show Blk wr.drew 36 R [.slice pL zs.length cL, .int .i64 (room : Nat)] from HR.out)
        have HL := Lib.hid (show Rds wr.drew 1 pL zs.length (vals_int zs) from HL.out)
        have HW := Lib.hid (HW.out.drew)
        have HP := Lib.hid (show OpsAt wr.drew p n from HP.out)
        refine wp_region_held_drew (S := (fun w' => w'.cell? ⟨R, 0, none⟩ = some (.slice pL zs.length cL))) (by kernel_rfl) (by (try dsimp only); exact HR.out.cell 0) (fun hHeld => ?_)
        refine wpAnyH_take (i := 0) (oi := ⟨some 134, _, _, _, _, _⟩) (v := ?_) rfl (by kernel_rfl) (by kernel_rfl) (by kernel_rfl) (fun _ _ _ h => h) (Or.inl ⟨by rfl, ?_⟩) (by assumption) ?_
        rotate_left
        · (intro w hSw; (try dsimp only at hSw); go_simp; try with_reducible rfl)
        simp only [Act.put, List.setIfInBounds_toArray, List.set_cons_zero, List.set_cons_succ]
        refine wpAnyH_take (i := 2) (oi := ⟨some 136, _, _, _, _, _⟩) (v := ?_) rfl (by kernel_rfl) (by kernel_rfl) (by kernel_rfl) (fun _ _ _ h => h) (Or.inl ⟨by rfl, ?_⟩) (by assumption) ?_
        rotate_left
        · (intro w hSw; (try dsimp only at hSw); go_simp; try with_reducible rfl)
        simp only [Act.put, List.setIfInBounds_toArray, List.set_cons_zero, List.set_cons_succ]
        refine wpAnyH_take (i := 3) (oi := ⟨some 137, _, _, _, _, _⟩) (v := ?_) rfl (by kernel_rfl) (by kernel_rfl) (by kernel_rfl) (fun _ _ _ h => h) (Or.inl ⟨by rfl, ?_⟩) (by assumption) ?_
        rotate_left
        · (intro w hSw; (try dsimp only at hSw); go_simp; try with_reducible rfl)
        simp only [Act.put, List.setIfInBounds_toArray, List.set_cons_zero, List.set_cons_succ]
        refine wpAnyH_ready (rs := [1]) (by kernel_rfl) (by simp) ?_
        refine AllReadyH.cons (o := ⟨some 135, _, _, _, _, _⟩) rfl (fun K hK => ?_) AllReadyH.nil
        go_simp
        go_at_call 11; refine (q_drain_int zs HQ.out (by omega)).mono ?_; rintro e w3 ⟨v3, rfl, ho3, hq3, hg3⟩; obtain ⟨p3, c3, rfl, hr3, _, _⟩ := Rds.of_read (readRow_own ho3); have hck := HQ.out.ck hg3; have HR := Lib.hid (hck.blk HR.out); have HL := Lib.hid (HL.out.ck hck); have HW := Lib.hid (HW.out.trans (HQ.out.belowB hg3)); have HP := Lib.hid (HP.out.ck hck); have HQ := Lib.hid hq3; have HR3 := Lib.hid hr3; clear ho3 hq3 hg3 hck hr3
        refine hK.out _ _ (by (try dsimp only); exact HR.out.cell 0) ?_
        clear hK K hHeld
        intro hHeld
        try simp only [Act.put, List.setIfInBounds_toArray, List.set_cons_zero, List.set_cons_succ]
        refine wpAnyH_ready (rs := [4]) (by kernel_rfl) (by simp) ?_
        refine AllReadyH.cons (o := ⟨some 138, _, _, _, _, _⟩) rfl (fun K hK => ?_) AllReadyH.nil
        go_simp
        go_at_call 10; refine (same_true zs p3 pL c3 cL _ (by omega) HR3.out HL.out).mono ?_; rintro e w4 ⟨rfl, m4, rfl⟩; have HQ := Lib.hid (HQ.out.dn m4); have HR := Lib.hid (HR.out.dn m4); have HL := Lib.hid (HL.out.dn m4); have HW := Lib.hid (below_drewN HW.out m4); have HP := Lib.hid (show OpsAt (w3.drewN m4) p n from HP.out)
        refine hK.out _ _ (by (try dsimp only); exact HR.out.cell 0) ?_
        clear hK K hHeld
        intro hHeld
        try simp only [Act.put, List.setIfInBounds_toArray, List.set_cons_zero, List.set_cons_succ]
        refine wpAnyH_take (i := 5) (oi := ⟨some 139, _, _, _, _, _⟩) (v := ?_) rfl (by kernel_rfl) (by kernel_rfl) (by kernel_rfl) (fun _ _ _ h => h) (Or.inl ⟨by rfl, ?_⟩) (by assumption) ?_
        rotate_left
        · (intro w hSw; (try dsimp only at hSw); go_simp; try with_reducible rfl)
        simp only [Act.put, List.setIfInBounds_toArray, List.set_cons_zero, List.set_cons_succ]
        refine wpAnyH_take (i := 6) (oi := ⟨some 140, _, _, _, _, _⟩) (v := ?_) rfl (by kernel_rfl) (by kernel_rfl) (by kernel_rfl) (fun _ _ _ h => h) (Or.inl ⟨by rfl, ?_⟩) (by assumption) ?_
        rotate_left
        · (intro w hSw; (try dsimp only at hSw); go_simp; try with_reducible rfl)
        simp only [Act.put, List.setIfInBounds_toArray, List.set_cons_zero, List.set_cons_succ]
        refine wpAnyH_ready (rs := [7]) (by kernel_rfl) (by simp) ?_
        refine AllReadyH.cons (o := ⟨some 141, _, _, _, _, _⟩) rfl (fun K hK => ?_) AllReadyH.nil
        go_simp
        go_at_call 15; refine (q_len_int HQ.out (by omega) (by simp)).mono ?_; rintro e w5 ⟨rfl, rfl⟩
        refine hK.out _ _ (by (try dsimp only); exact HR.out.cell 0) ?_
        clear hK K hHeld
        intro hHeld
        try simp only [Act.put, List.setIfInBounds_toArray, List.set_cons_zero, List.set_cons_succ]
        refine wpAnyH_take (i := 8) (oi := ⟨some 142, _, _, _, _, _⟩) (v := ?_) rfl (by kernel_rfl) (by kernel_rfl) (by kernel_rfl) (fun _ _ _ h => h) (Or.inl ⟨by rfl, ?_⟩) (by assumption) ?_
        rotate_left
        · (intro w hSw; (try dsimp only at hSw); go_simp; try with_reducible rfl)
        simp only [Act.put, List.setIfInBounds_toArray, List.set_cons_zero, List.set_cons_succ]
        refine wpAnyH_take (i := 9) (oi := ⟨some 143, _, _, _, _, _⟩) (v := ?_) rfl (by kernel_rfl) (by kernel_rfl) (by kernel_rfl) (fun _ _ _ h => h) (Or.inl ⟨by rfl, ?_⟩) (by assumption) ?_
        rotate_left
        · (intro w hSw; (try dsimp only at hSw); go_simp; try with_reducible rfl)
        simp only [Act.put, List.setIfInBounds_toArray, List.set_cons_zero, List.set_cons_succ]
        refine wpAnyH_take (i := 10) (oi := ⟨some 4, _, _, _, _, _⟩) (v := ?_) rfl (by kernel_rfl) (by kernel_rfl) (by kernel_rfl) (fun _ _ _ h => h) (Or.inl ⟨by rfl, ?_⟩) (by assumption) ?_
        rotate_left
        · (intro w hSw; (try dsimp only at hSw); go_simp; try with_reducible rfl)
        simp only [Act.put, List.setIfInBounds_toArray, List.set_cons_zero, List.set_cons_succ]
        refine wpAnyH_done (by kernel_rfl) ?_ _
        go_wp2
        go_ret
        exact ⟨rfl, HW.out⟩

set_option maxRecDepth 100000 in
theorem lifted (os : Os) (started : os.Started) (H : Type) (enc : TypeId × Value → H) :
    ReturnsInHanded {} Try.checked os 4 .any (Rows.queuePlaysSpec.pre6 enc Try.prog Try.f4 Rows.queuePlaysRow.domain false) (Rows.queuePlaysSpec.post enc Try.prog Try.f4 false true false false) := by
  refine returnsInHanded_of_change (C := Try.checked) own started (by kernel_rfl) Try.func4
    (ChangeSpec.witness6 (enc := enc) (C := Try.checked) false ⟨#[], #[.int .i64 0, .slice none 0 0], []⟩ 8 (by kernel_rfl) (by kernel_rfl) (by kernel_rfl) (by kernel_rfl)) ?_
  intro W base args ds gs before hval0 hW hcnd _
  have hval : ∀ (j : Nat) t v, Try.f4.params[j]? = some t → args[j]? = some v → Value.okWide Try.prog W .any base t v := hval0
  have hW' := hW
  obtain ⟨p, q, hA0, hV, rfl, hfz, hnd⟩ := hW
  have hA : DataW.TrodAll enc Try.prog W 0 (fun _ => true) true Try.f4.params.toList args.toList ds p := hA0
  rw [Try.params4] at hA hval
  obtain ⟨v0, vs0, d0, ds0, p0, q0, hargs, rfl, rfl, h0, r0⟩ := trodAll_cons hA
  obtain ⟨v1, vs1, d1, ds1, p1, q1, rfl, rfl, rfl, h1, r1⟩ := trodAll_cons r0
  obtain ⟨rfl, rfl, rfl⟩ := trodAll_nil r1
  obtain rfl : args = #[v0, v1] := by cases args; simp_all
  obtain ⟨rfl, rfl⟩ := trodVars_none hV
  obtain ⟨a0, rfl, rfl, rfl, w0⟩ := open_int Try.underlying3 (hval 0 3 v0 rfl rfl) h0
  have k1 := h1
  have lt1 : ∀ x ∈ p1, x.block < W.heap.size := by obtain ⟨m, hm⟩ := k1; exact DataW.trod_lt m _ _ _ hm
  obtain ⟨xp1, xc1, xz1, rfl, hz1, hs1⟩ := open_ops (hval 1 34 v1 rfl rfl) h1
  clear hA0 hval0
  refine (walk a0 xp1 xc1 xz1 W w0 hz1 hs1).mono fun e W' ⟨he, bel⟩ => ?_
  subst he
  exact ⟨_, rfl, _, _, _, [], _, [], hW', trodAll_mk1 (shut_bool Try.underlying4 _), (trodAll_cons_mk (shut_int Try.underlying3 w0) (trodAll_cons_mk (Below.trod laidOut (by kernel_rfl) (of_decide_eq_true (by kernel_rfl)) k1 bel lt1) trodAll_mk0)), rfl, bel.frame _, fun h => by cases h⟩

theorem over : Rows.queuePlaysRow.holds Try.pinned (OpenSpec.ofChange Rows.queuePlaysSpec) :=
  OpenClaim.holds_of_wide 4 Try.f4 rfl rfl rfl rfl rfl rfl rfl ⟨rfl, rfl, rfl, rfl, rfl⟩ rfl rfl rfl rfl rfl (by kernel_rfl) Try.func4 (by kernel_rfl)
    (of_decide_eq_true (by kernel_rfl)) (by unfold Func.isWrapper; first | (rw [if_pos (by decide +kernel)]; kernel_rfl) | (rw [if_neg (by decide +kernel)]; exact ⟨rfl, rfl⟩))
    (fun os started H enc _ => lifted os started H enc)

theorem proved : Rows.QueuePlaysSaid := over
#print axioms proved
end Go.Proofs.Ytckejjpillcdgaa.queuePlays
