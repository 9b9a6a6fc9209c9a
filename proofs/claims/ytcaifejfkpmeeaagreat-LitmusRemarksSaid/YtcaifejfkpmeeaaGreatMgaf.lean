/- What can be read of cells, by their type: arguments are opened by it. -/
import Derived.Test.YtcaifejfkpmeeaaGreatMgab
import Derived.Test.YtcaifejfkpmeeaaGreatMgae
import Derived.StillTailTactics
import Derived.OpenShut
import Derived.ShutString
namespace Go.Proofs.YtcaifejfkpmeeaaGreat
open Go.RowKit
set_option linter.unusedVariables false
set_option linter.unusedSimpArgs false

/-- A token: its sort, its text, its place. -/
abbrev Tk := Int × ByteArray × Int
def tkV (t : Tk) : Value := .agg #[.int .i64 t.1, .string t.2.1, .int .i64 t.2.2]
def tkL (l : List Tk) : List Value := l.flatMap fun t => [.int .i64 t.1, .string t.2.1, .int .i64 t.2.2]
theorem tkL_get : ∀ (l : List Tk) (i : Nat) (h : i < l.length), (tkL l)[i * 3]? = some (.int .i64 l[i].1) ∧ (tkL l)[i * 3 + 1]? = some (.string l[i].2.1) ∧ (tkL l)[i * 3 + 2]? = some (.int .i64 l[i].2.2)
  | [], i, h => by simp at h
  | t :: l, 0, h => by simp [tkL]
  | t :: l, i + 1, h => by
    have := tkL_get l i (by simpa using h)
    have e : tkL (t :: l) = [.int .i64 t.1, .string t.2.1, .int .i64 t.2.2] ++ tkL l := by simp [tkL]
    rw [e, show (i + 1) * 3 = i * 3 + 3 by omega]
    simpa using this
/-- Where a reader stands: at a token; with a fault's number and place. -/
structure RS where
  k : Nat
  code : Int
  at_ : Int
def peekR (tk : List Tk) (s : RS) : Tk := tk.getD s.k (4, ByteArray.empty, 0)
def onR (s : RS) : RS := { s with k := s.k + 1 }
def nextR (tk : List Tk) (s : RS) : RS := if (peekR tk s).1 = 4 then s else onR s
def failR (tk : List Tk) (s : RS) (e : Int) : RS := if s.code = 0 then { s with code := e, at_ := (peekR tk s).2.2 } else s
def isR (tk : List Tk) (s : RS) (kind : Int) (text : ByteArray) : Bool := decide ((peekR tk s).1 = kind) && decide ((peekR tk s).2.1 = text)
def RdrAt (w : World) (r n : Nat) (p : Option Addr) (c : Nat) (tk : List Tk) (s : RS) : Prop :=
  Blk w 91 r [.slice p n c, .int .i64 (s.k : Nat), .int .i64 s.code, .int .i64 s.at_] ∧ Rds w 3 p n (tkL tk) ∧ tk.length = n ∧ (∀ a, p = some a → a.block ≠ r) ∧ s.k ≤ n ∧ n ≤ 1048577 ∧ ∀ t ∈ tk, t.2.1.size ≤ 1048576
section
variable {w w' : World} {r n : Nat} {p : Option Addr} {c : Nat} {tk : List Tk} {s : RS}
theorem RdrAt.below (h : RdrAt w r n p c tk s) (hb : Below w.heap.size w w') : RdrAt w' r n p c tk s := ⟨h.1.below hb, h.2.1.below hb, h.2.2⟩
theorem RdrAt.dn (h : RdrAt w r n p c tk s) (k : Nat) : RdrAt (w.drewN k) r n p c tk s := h
theorem RdrAt.lt (h : RdrAt w r n p c tk s) : r < w.heap.size := h.1.lt
theorem RdrAt.peek_in (h : RdrAt w r n p c tk s) (hk : s.k < n) : ∃ g off, p = some ⟨g, off, none⟩ ∧ g ≠ r ∧ w.cell? ⟨g, off + s.k * 3, none⟩ = some (.int .i64 (peekR tk s).1) ∧ w.cell? ⟨g, off + s.k * 3 + 1, none⟩ = some (.string (peekR tk s).2.1) ∧ w.cell? ⟨g, off + s.k * 3 + 2, none⟩ = some (.int .i64 (peekR tk s).2.2) := by
  obtain ⟨_, ⟨_, hr⟩, hl, hne, _⟩ := h
  obtain ⟨g, off, hp, hc⟩ := hr (by omega)
  have hk' : s.k < tk.length := by omega
  have hpk : peekR tk s = tk[s.k] := by unfold peekR; simp [List.getD_eq_getElem?_getD, hk']
  obtain ⟨h0, h1, h2⟩ := tkL_get tk s.k hk'
  rw [hpk]
  refine ⟨g, off, hp, hne _ hp, (hc _ (by omega)).trans h0, ?_, ?_⟩
  · exact (hc (s.k * 3 + 1) (by omega)).trans h1
  · exact (hc (s.k * 3 + 2) (by omega)).trans h2
theorem peek_out (hk : ¬ s.k < tk.length) : peekR tk s = (4, ByteArray.empty, 0) := by
  unfold peekR; rw [List.getD_eq_getElem?_getD, List.getElem?_eq_none (by omega)]; rfl
end

theorem tok_field0 (a : Int) (b : ByteArray) (c : Int) (w : World) : (Instr.field 75 (.agg #[.int .i64 a, .string b, .int .i64 c]) 0).run Tryz.prog w = .ok (.int .i64 a) w := by kernel_rfl
theorem tok_field2 (a : Int) (b : ByteArray) (c : Int) (w : World) : (Instr.field 75 (.agg #[.int .i64 a, .string b, .int .i64 c]) 2).run Tryz.prog w = .ok (.int .i64 c) w := by kernel_rfl
theorem blk_set3 {w : World} {T : TypeId} {g : Nat} {a b c : Value} (h : Blk w T g [a, b, c]) (x y z : Value) : Blk (((w.setCell ⟨g, 0, none⟩ x).setCell ⟨g, 1, none⟩ y).setCell ⟨g, 2, none⟩ z) T g [x, y, z] := by
  simpa using ((h.set 0 x).set 1 y).set 2 z
theorem blk_other3 {w : World} {T : TypeId} {r g : Nat} {cs : List Value} (h : Blk w T r cs) (hne : r ≠ g) (x y z : Value) : Blk (((w.setCell ⟨g, 0, none⟩ x).setCell ⟨g, 1, none⟩ y).setCell ⟨g, 2, none⟩ z) T r cs :=
  ((h.other (p := ⟨g, 0, none⟩) hne x).other (p := ⟨g, 1, none⟩) hne y).other (p := ⟨g, 2, none⟩) hne z
theorem below_set3 {w w' : World} {B g : Nat} (h : Below B w w') (hg : B ≤ g) (x y z : Value) : Below B w (((w'.setCell ⟨g, 0, none⟩ x).setCell ⟨g, 1, none⟩ y).setCell ⟨g, 2, none⟩ z) := ((h.setCell (by simpa using hg) _).setCell (by simpa using hg) _).setCell (by simpa using hg) _
theorem grown_set3 {w w' : World} {row : Option Nat} {g : Nat} (h : w.grownBy w' row) (hg : w.heap.size ≤ g) (x y z : Value) : w.grownBy (((w'.setCell ⟨g, 0, none⟩ x).setCell ⟨g, 1, none⟩ y).setCell ⟨g, 2, none⟩ z) row := by
  have h1 : ∀ {v : World} (j : Nat) (u : Value), w.grownBy v row → w.grownBy (v.setCell ⟨g, j, none⟩ u) row := fun j u h =>
    ⟨h.os, h.tape, h.output, by simpa using h.size, fun k hk hne => (Below.heap_setCell _ _ _ k (by simp; omega)).trans (h.block k hk hne)⟩
  exact h1 2 z (h1 1 y (h1 0 x h))

set_option maxRecDepth 100000 in
set_option maxHeartbeats 1600000 in
theorem peek_any {r n : Nat} {p : Option Addr} {c : Nat} {tk : List Tk} {s : RS} (w : World) (h : RdrAt w r n p c tk s) :
    Calls Tryz.prog 41 #[.pointer (some ⟨r, 0, none⟩)] w fun e w' => e = .returned (tkV (peekR tk s)) ∧ Below w.heap.size w w' := by
  have HR := Lib.hid h
  have HN := Lib.hid (show Blk (w.alloc (.cells #[.int .i64 0, .string ⟨#[]⟩, .int .i64 0] 75)) 75 w.heap.size [.int .i64 0, .string ⟨#[]⟩, .int .i64 0] from Blk.new _ _ _)
  have HB := Lib.hid (show Below w.heap.size w (w.alloc (.cells #[.int .i64 0, .string ⟨#[]⟩, .int .i64 0] 75)) from below_alloc (Below.refl _ _) _)
  have hr := h.below HB.out
  have HR1 := Lib.hid hr
  have c0 : (w.alloc (.cells #[.int .i64 0, .string ⟨#[]⟩, .int .i64 0] 75)).cell? ⟨r, 0, none⟩ = some (.slice p n c) := hr.1.cell 0
  have c1 : (w.alloc (.cells #[.int .i64 0, .string ⟨#[]⟩, .int .i64 0] 75)).cell? ⟨r, 1, none⟩ = some (.int .i64 (s.k : Nat)) := hr.1.cell 1
  have hk0 : (0 : Int) ≤ s.k := by omega
  by_cases hk : s.k < n
  · obtain ⟨g, off, hp, hgr, t0, t1, t2⟩ := hr.peek_in hk
    subst hp
    have hki : (s.k : Int) < n := by omega
    clear h hr
    generalize peekR tk s = t at *
    obtain ⟨k1, k2, k3⟩ := t
    simp only at t0 t1 t2
    go_enter Tryz.func41, Tryz.ntmps41
    go_wp2_with fail
    go_quiet (fail)
    go_wp2_with fail
    refine region_tail 10 (by kernel_rfl) (by kernel_rfl) ?_
    simp only [List.take_succ_cons, List.take_zero, List.drop_succ_cons, List.drop_zero]
    repeat still_step
    refine wpStill_nil ?_
    go_wp2_with fail
    exact bodyPost_ret (results_cell_row rfl _ _ w.heap.size 75 #[.int .i64 k1, .string k2, .int .i64 k3] (0, 0) _ rfl (blk_set3 (HN.out.dn _) _ _ _) Tryz.underlying75 rfl (by kernel_rfl)) rfl ⟨rfl, below_set3 (below_drewN HB.out _) (Nat.le_refl _) _ _ _⟩
  · have hki : ¬ (s.k : Int) < n := by omega
    have HPO := Lib.hid (peek_out (tk := tk) (s := s) (by have := h.2.2.1; omega))
    clear h hr
    go_enter Tryz.func41, Tryz.ntmps41
    go_wp2_with fail
    go_quiet (fail)
    go_wp2_with fail
    refine bodyPost_ret (results_cell_row rfl _ _ w.heap.size 75 #[.int .i64 4, .string ⟨#[]⟩, .int .i64 0] (0, 0) _ rfl (blk_set3 (HN.out.dn _) _ _ _) Tryz.underlying75 rfl (by kernel_rfl)) rfl ⟨?_, below_set3 (below_drewN HB.out _) (Nat.le_refl _) _ _ _⟩
    rw [HPO.out]; rfl

theorem RdrAt.kept {w w' : World} {r n : Nat} {p : Option Addr} {c : Nat} {tk : List Tk} {s s' : RS} (h : RdrAt w r n p c tk s) (hg : w.grownBy w' (some r)) (hb : Blk w' 91 r [.slice p n c, .int .i64 (s'.k : Nat), .int .i64 s'.code, .int .i64 s'.at_]) (hk : s'.k ≤ n) : RdrAt w' r n p c tk s' :=
  ⟨hb, h.2.1.grownR hg (fun a ha e => h.2.2.2.1 a ha (by injection e)), h.2.2.1, h.2.2.2.1, hk, h.2.2.2.2.2⟩
theorem RdrAt.peek_size {w : World} {r n : Nat} {p : Option Addr} {c : Nat} {tk : List Tk} {s : RS} (h : RdrAt w r n p c tk s) : (peekR tk s).2.1.size ≤ 1048576 := by
  by_cases hk : s.k < tk.length
  · have : peekR tk s = tk[s.k] := by unfold peekR; simp [List.getD_eq_getElem?_getD, hk]
    rw [this]; exact h.2.2.2.2.2.2 _ (List.getElem_mem hk)
  · rw [peek_out hk]; decide
theorem RdrAt.blk {w : World} {r n : Nat} {p : Option Addr} {c : Nat} {tk : List Tk} {s : RS} (h : RdrAt w r n p c tk s) : Blk w 91 r [.slice p n c, .int .i64 (s.k : Nat), .int .i64 s.code, .int .i64 s.at_] := h.1
theorem RdrAt.room {w : World} {r n : Nat} {p : Option Addr} {c : Nat} {tk : List Tk} {s : RS} (h : RdrAt w r n p c tk s) (hk : ¬ (peekR tk s).1 = 4) : s.k < n := by
  have := h.2.2.1
  apply Classical.byContradiction
  intro hn
  rw [peek_out (by omega)] at hk
  exact hk rfl
set_option maxRecDepth 100000 in
set_option maxHeartbeats 1600000 in
theorem next_any {r n : Nat} {p : Option Addr} {c : Nat} {tk : List Tk} {s : RS} (w : World) (h : RdrAt w r n p c tk s) :
    Calls Tryz.prog 25 #[.pointer (some ⟨r, 0, none⟩)] w fun e w' => e = .returned (tkV (peekR tk s)) ∧ RdrAt w' r n p c tk (nextR tk s) ∧ w.grownBy w' (some r) := by
  have HR := Lib.hid h
  have HN := Lib.hid (show Blk (w.alloc (.cells #[.int .i64 0, .string ⟨#[]⟩, .int .i64 0] 75)) 75 w.heap.size [.int .i64 0, .string ⟨#[]⟩, .int .i64 0] from Blk.new _ _ _)
  have HB := Lib.hid (show Below w.heap.size w (w.alloc (.cells #[.int .i64 0, .string ⟨#[]⟩, .int .i64 0] 75)) from below_alloc (Below.refl _ _) _)
  have HP := peek_any _ (h.below HB.out)
  have hrl := h.lt
  have HRM := Lib.hid (fun hk => h.room hk)
  have hn6 := h.2.2.2.2.2.1
  have HNX := Lib.hid (show ((peekR tk s).1 = 4 → nextR tk s = s) ∧ (¬ (peekR tk s).1 = 4 → nextR tk s = onR s) from ⟨fun e => by unfold nextR; rw [if_pos e], fun e => by unfold nextR; rw [if_neg e]⟩)
  clear h
  generalize peekR tk s = t at *
  obtain ⟨k1, k2, k3⟩ := t
  simp only [tkV] at HP ⊢
  have HP := Lib.hid HP
  go_enter Tryz.func25, Tryz.ntmps25
  go_wp2_with fail
  refine (HP.out).mono ?_
  rintro e w2 ⟨rfl, hb⟩
  have hz : w.heap.size < w2.heap.size := by have := hb.size; simp at this; omega
  have HN2 := Lib.hid (HN.out.below hb)
  have HB2 := Lib.hid (below_trans HB.out hb)
  have HR2 := Lib.hid (HR.out.below HB2.out)
  have hrz : r < w2.heap.size := by omega
  have r1 := HR2.out.blk.cell 1
  have rf := HR2.out.blk.free 1
  have n0 := HN2.out.cell 0
  have n1 := HN2.out.cell 1
  have n2 := HN2.out.cell 2
  have nf0 := HN2.out.free 0
  have nf1 := HN2.out.free 1
  have nf2 := HN2.out.free 2
  simp only [List.getElem?_cons_zero, List.getElem?_cons_succ] at r1 n0 n1 n2
  clear hb HP HB HN
  by_cases hk : k1 = 4
  · have HX := Lib.hid (HNX.out.1 hk)
    subst hk
    go_wp2_with fail
    refine bodyPost_ret (results_cell_row rfl _ _ w.heap.size 75 #[.int .i64 4, .string k2, .int .i64 k3] (0, 0) _ rfl ((blk_set3 HN2.out _ _ _).alloc _) Tryz.underlying75 rfl (by kernel_rfl)) rfl ⟨rfl, ?_, ?_⟩
    · rw [HX.out]
      exact HR.out.kept (grown_thenR (grown_set3 (grown_below HB2.out) (Nat.le_refl _) _ _ _) (World.grownBy_alloc _ _ _)) ((blk_other3 HR2.out.blk (by omega) _ _ _).alloc _) HR.out.2.2.2.2.1
    · exact grown_thenR (grown_set3 (grown_below HB2.out) (Nat.le_refl _) _ _ _) (World.grownBy_alloc _ _ _)
  · have HX := Lib.hid (HNX.out.2 hk)
    have hkl := HRM.out hk
    have hkb : (k1 == 4) = false := by simpa using hk
    have hwr : IntKind.i64.wrap ((s.k : Int) + 1) = ((s.k : Int) + 1) := IntWalk.i64_in _ (by omega)
    have HRS := Lib.hid (show Blk (w2.setCell ⟨r, 1, none⟩ (.int .i64 ((s.k : Int) + 1))) 91 r [.slice p n c, .int .i64 ((onR s).k : Nat), .int .i64 (onR s).code, .int .i64 (onR s).at_] from by simpa [onR] using HR2.out.blk.set 1 (.int .i64 ((s.k : Int) + 1)))
    have HNS := Lib.hid (HN2.out.other (p := ⟨r, 1, none⟩) (by simp; omega) (.int .i64 ((s.k : Int) + 1)))
    have HGS := Lib.hid (grown_thenR (grown_below (row := some r) HB2.out) (grown_setR w2 r 1 (.int .i64 ((s.k : Int) + 1))))
    go_wp2_with fail
    refine bodyPost_ret (results_cell_row rfl _ _ w.heap.size 75 #[.int .i64 k1, .string k2, .int .i64 k3] (0, 0) _ rfl ((blk_set3 HNS.out _ _ _).alloc _) Tryz.underlying75 rfl (by kernel_rfl)) rfl ⟨rfl, ?_, ?_⟩
    · rw [HX.out]
      exact HR.out.kept (grown_thenR (grown_set3 HGS.out (Nat.le_refl _) _ _ _) (World.grownBy_alloc _ _ _)) ((blk_other3 HRS.out (by omega) _ _ _).alloc _) hkl
    · exact grown_thenR (grown_set3 HGS.out (Nat.le_refl _) _ _ _) (World.grownBy_alloc _ _ _)

set_option maxRecDepth 100000 in
set_option maxHeartbeats 1600000 in
theorem fail_any {r n : Nat} {p : Option Addr} {c : Nat} {tk : List Tk} {s : RS} (w : World) (x : Int) (h : RdrAt w r n p c tk s) :
    Calls Tryz.prog 42 #[.pointer (some ⟨r, 0, none⟩), .int .i64 x] w fun e w' => e = .returned (.tuple #[]) ∧ RdrAt w' r n p c tk (failR tk s x) ∧ w.grownBy w' (some r) := by
  have HR := Lib.hid h
  have HP := peek_any w h
  have c2 := h.blk.cell 2
  simp only [List.getElem?_cons_zero, List.getElem?_cons_succ] at c2
  have HNX := Lib.hid (show (s.code = 0 → failR tk s x = { s with code := x, at_ := (peekR tk s).2.2 }) ∧ (¬ s.code = 0 → failR tk s x = s) from ⟨fun e => by unfold failR; rw [if_pos e], fun e => by unfold failR; rw [if_neg e]⟩)
  have hrl := h.lt
  clear h
  generalize peekR tk s = t at *
  obtain ⟨k1, k2, k3⟩ := t
  simp only [tkV] at HP
  have HP := Lib.hid HP
  by_cases hk : s.code = 0
  · have HX := Lib.hid (HNX.out.1 hk)
    rw [hk] at c2
    clear hk
    go_enter Tryz.func42, Tryz.ntmps42
    go_wp2_with fail
    refine (HP.out).mono ?_
    rintro e w2 ⟨rfl, hb⟩
    have HB2 := Lib.hid hb
    have HR2 := Lib.hid (HR.out.below hb)
    have r2 := HR2.out.blk.cell 2
    have r3 := HR2.out.blk.cell 3
    have rf2 := HR2.out.blk.free 2
    have rf3 := HR2.out.blk.free 3
    simp only [List.getElem?_cons_zero, List.getElem?_cons_succ] at r2 r3
    have HRS := Lib.hid (show Blk ((w2.setCell ⟨r, 2, none⟩ (.int .i64 x)).setCell ⟨r, 3, none⟩ (.int .i64 k3)) 91 r [.slice p n c, .int .i64 (s.k : Nat), .int .i64 x, .int .i64 k3] from by simpa using (HR2.out.blk.set 2 (.int .i64 x)).set 3 (.int .i64 k3))
    have HGS := Lib.hid (grown_thenR (grown_thenR (grown_below (row := some r) HB2.out) (grown_setR w2 r 2 (.int .i64 x))) (grown_setR _ r 3 (.int .i64 k3)))
    have hf2 := fun w => tok_field2 k1 k2 k3 w
    clear hb HP
    go_wp2_with fail
    go_end0
    exact ⟨rfl, by rw [HX.out]; exact HR.out.kept HGS.out HRS.out HR.out.2.2.2.2.1, HGS.out⟩
  · have HX := Lib.hid (HNX.out.2 hk)
    have hkb : (s.code == 0) = false := by simpa using hk
    go_enter Tryz.func42, Tryz.ntmps42
    go_wp2_with fail
    refine bodyPost_end (results_none rfl _ _ _) (by rfl) ?_
    exact ⟨rfl, by rw [HX.out]; exact HR.out, grown_below (Below.refl _ _)⟩
theorem rbad_any {r n : Nat} {p : Option Addr} {c : Nat} {tk : List Tk} {s : RS} (w : World) (h : RdrAt w r n p c tk s) :
    Calls Tryz.prog 34 #[.pointer (some ⟨r, 0, none⟩)] w fun e w' => e = .returned (.agg #[.int .i64 s.code, .int .i64 s.at_]) ∧ Below w.heap.size w w' := by
  have HN := Lib.hid (show Blk (w.alloc (.cells #[.int .i64 0, .int .i64 0] 41)) 41 w.heap.size [.int .i64 0, .int .i64 0] from Blk.new _ _ _)
  have HB := Lib.hid (show Below w.heap.size w (w.alloc (.cells #[.int .i64 0, .int .i64 0] 41)) from below_alloc (Below.refl _ _) _)
  have c2 := h.blk.cell 2
  have c3 := h.blk.cell 3
  simp only [List.getElem?_cons_zero, List.getElem?_cons_succ] at c2 c3
  have hrl := h.lt
  clear h
  go_enter Tryz.func34, Tryz.ntmps34
  go_wp2_with fail
  exact bodyPost_ret (results_cell_row rfl _ _ w.heap.size 41 #[.int .i64 s.code, .int .i64 s.at_] (0, 0) _ rfl (heap_alloc_new w _) Tryz.underlying41 rfl (by kernel_rfl)) rfl ⟨rfl, below_alloc (Below.refl _ _) _⟩

set_option maxRecDepth 100000 in
set_option maxHeartbeats 1600000 in
theorem is_any {r n : Nat} {p : Option Addr} {c : Nat} {tk : List Tk} {s : RS} (w : World) (kind : Int) (text : ByteArray) (h : RdrAt w r n p c tk s) :
    Calls Tryz.prog 49 #[.pointer (some ⟨r, 0, none⟩), .int .i64 kind, .string text] w fun e w' => e = .returned (.bool (isR tk s kind text)) ∧ RdrAt w' r n p c tk (if isR tk s kind text then nextR tk s else s) ∧ w.grownBy w' (some r) := by
  have HR := Lib.hid h
  have HP := peek_any w h
  have HIS := Lib.hid (show isR tk s kind text = (decide ((peekR tk s).1 = kind) && decide ((peekR tk s).2.1 = text)) from rfl)
  clear h
  generalize isR tk s kind text = b at *
  have HNX := Lib.hid (fun w2 (hb : RdrAt w2 r n p c tk s) => next_any w2 hb)
  generalize peekR tk s = t at *
  obtain ⟨k1, k2, k3⟩ := t
  simp only [tkV] at HP HNX
  have HP := Lib.hid HP
  by_cases hk : k1 = kind
  · subst hk
    by_cases ht : k2 = text
    · subst ht
      obtain rfl : b = true := by rw [HIS.out]; simp
      go_enter Tryz.func49, Tryz.ntmps49
      go_wp2_with fail
      refine (HP.out).mono ?_
      rintro e w2 ⟨rfl, hb⟩
      have HB := Lib.hid (below_alloc hb (.cells #[.int .i64 k1, .string k2, .int .i64 k3] 75))
      have HN := Lib.hid (HNX.out _ (HR.out.below HB.out))
      clear hb
      go_wp2_with fail
      refine (HN.out).mono ?_
      rintro e w3 ⟨rfl, hr3, hg3⟩
      have HG := Lib.hid (grown_thenR (grown_below HB.out) hg3)
      have HR3 := Lib.hid hr3
      clear hg3 hr3
      go_wp2_with fail
      go_ret
      exact ⟨rfl, HR3.out, HG.out⟩
    · obtain rfl : b = false := by rw [HIS.out]; simp [ht]
      have htb : (k2.toList == text.toList) = false := toList_ne ht
      go_enter Tryz.func49, Tryz.ntmps49
      go_wp2_with fail
      refine (HP.out).mono ?_
      rintro e w2 ⟨rfl, hb⟩
      have HB := Lib.hid (below_alloc hb (.cells #[.int .i64 k1, .string k2, .int .i64 k3] 75))
      clear hb
      go_wp2_with fail
      go_ret
      exact ⟨rfl, HR.out.below HB.out, grown_below HB.out⟩
  · obtain rfl : b = false := by rw [HIS.out]; simp [hk]
    have hkb : (k1 == kind) = false := by simpa using hk
    go_enter Tryz.func49, Tryz.ntmps49
    go_wp2_with fail
    refine (HP.out).mono ?_
    rintro e w2 ⟨rfl, hb⟩
    have HB := Lib.hid (below_alloc hb (.cells #[.int .i64 k1, .string k2, .int .i64 k3] 75))
    clear hb
    go_wp2_with fail
    go_ret
    exact ⟨rfl, HR.out.below HB.out, grown_below HB.out⟩
def mustR (tk : List Tk) (s : RS) (kind : Int) (text : ByteArray) : RS := if isR tk s kind text then nextR tk s else failR tk s 110
theorem must_any {r n : Nat} {p : Option Addr} {c : Nat} {tk : List Tk} {s : RS} (w : World) (kind : Int) (text : ByteArray) (h : RdrAt w r n p c tk s) :
    Calls Tryz.prog 45 #[.pointer (some ⟨r, 0, none⟩), .int .i64 kind, .string text] w fun e w' => e = .returned (.tuple #[]) ∧ RdrAt w' r n p c tk (mustR tk s kind text) ∧ w.grownBy w' (some r) := by
  have HI := is_any w kind text h
  have HM := Lib.hid (show mustR tk s kind text = if isR tk s kind text then nextR tk s else failR tk s 110 from rfl)
  clear h
  generalize isR tk s kind text = b at *
  have HI := Lib.hid HI
  go_enter Tryz.func45, Tryz.ntmps45
  go_wp2_with fail
  refine (HI.out).mono ?_
  rintro e w2 ⟨rfl, hr, hg⟩
  have HG := Lib.hid hg
  have HR := Lib.hid hr
  clear hr hg HI
  cases b
  · have HF := Lib.hid (fail_any w2 110 HR.out)
    go_wp2_with fail
    refine (HF.out).mono ?_
    rintro e w3 ⟨rfl, hr, hg⟩
    have HG3 := Lib.hid (grown_thenR HG.out hg)
    have HR3 := Lib.hid hr
    clear hr hg
    go_wp2_with fail
    go_end0
    exact ⟨rfl, by rw [HM.out]; exact HR3.out, HG3.out⟩
  · go_wp2_with fail
    go_end0
    exact ⟨rfl, by rw [HM.out]; exact HR.out, HG.out⟩
def endR (tk : List Tk) (s : RS) : RS := if (peekR tk s).1 = 4 then s else failR tk s 110
theorem end_any {r n : Nat} {p : Option Addr} {c : Nat} {tk : List Tk} {s : RS} (w : World) (h : RdrAt w r n p c tk s) :
    Calls Tryz.prog 33 #[.pointer (some ⟨r, 0, none⟩)] w fun e w' => e = .returned (.tuple #[]) ∧ RdrAt w' r n p c tk (endR tk s) ∧ w.grownBy w' (some r) := by
  have HR := Lib.hid h
  have HP := peek_any w h
  have HE := Lib.hid (show endR tk s = if (peekR tk s).1 = 4 then s else failR tk s 110 from rfl)
  clear h
  generalize peekR tk s = t at *
  obtain ⟨k1, k2, k3⟩ := t
  simp only [tkV] at HP
  have HP := Lib.hid HP
  have HX := Lib.hid (show (k1 = 4 → endR tk s = s) ∧ (¬ k1 = 4 → endR tk s = failR tk s 110) from ⟨fun e => by rw [HE.out, if_pos e], fun e => by rw [HE.out, if_neg e]⟩)
  by_cases hk : k1 = 4
  · have HXX := Lib.hid (HX.out.1 hk)
    clear HX HE
    subst hk
    have hf0 := fun w => tok_field0 4 k2 k3 w
    go_enter Tryz.func33, Tryz.ntmps33
    go_wp2_with fail
    refine (HP.out).mono ?_
    rintro e w2 ⟨rfl, hb⟩
    have HB := Lib.hid hb
    clear hb HP
    go_wp2_with fail
    go_end0
    exact ⟨rfl, by rw [HXX.out]; exact HR.out.below HB.out, grown_below HB.out⟩
  · have HX := Lib.hid (HX.out.2 hk)
    have hkb : (k1 == 4) = false := by simpa using hk
    have hf0 := fun w => tok_field0 k1 k2 k3 w
    go_enter Tryz.func33, Tryz.ntmps33
    go_wp2_with fail
    refine (HP.out).mono ?_
    rintro e w2 ⟨rfl, hb⟩
    have HB := Lib.hid hb
    have HF := Lib.hid (fail_any w2 110 (HR.out.below hb))
    clear hb HP
    go_wp2_with fail
    refine (HF.out).mono ?_
    rintro e w3 ⟨rfl, hr, hg⟩
    have HG3 := Lib.hid (grown_thenR (grown_below HB.out) hg)
    have HR3 := Lib.hid hr
    clear hr hg
    go_wp2_with fail
    go_end0
    exact ⟨rfl, by rw [HX.out]; exact HR3.out, HG3.out⟩
/-- What a text's number is. -/
def numT (s : ByteArray) : Nat × Nat := parseL s.data.toList
def numberR (tk : List Tk) (s : RS) : Nat × RS := if (peekR tk s).1 = 2 ∧ (numT (peekR tk s).2.1).2 = 0 then ((numT (peekR tk s).2.1).1, nextR tk s) else (0, failR tk s 110)
set_option maxRecDepth 100000 in
set_option maxHeartbeats 1600000 in
theorem number_any {r n : Nat} {p : Option Addr} {c : Nat} {tk : List Tk} {s : RS} (w : World) (h : RdrAt w r n p c tk s) :
    Calls Tryz.prog 44 #[.pointer (some ⟨r, 0, none⟩)] w fun e w' => e = .returned (.int .u64 ((numberR tk s).1 : Nat)) ∧ RdrAt w' r n p c tk (numberR tk s).2 ∧ w.grownBy w' (some r) := by
  have HR := Lib.hid h
  have HP := peek_any w h
  have hsz := h.peek_size
  have HNR := Lib.hid (show ((peekR tk s).1 = 2 ∧ (numT (peekR tk s).2.1).2 = 0 → numberR tk s = ((numT (peekR tk s).2.1).1, nextR tk s)) ∧ (¬ ((peekR tk s).1 = 2 ∧ (numT (peekR tk s).2.1).2 = 0) → numberR tk s = (0, failR tk s 110)) from ⟨fun e => by unfold numberR; rw [if_pos e], fun e => by unfold numberR; rw [if_neg e]⟩)
  have HNX := fun w2 (hb : RdrAt w2 r n p c tk s) => next_any w2 hb
  clear h
  generalize peekR tk s = t at *
  obtain ⟨k1, k2, k3⟩ := t
  simp only [tkV] at HP HNX hsz
  have HP := Lib.hid HP
  have HNX := Lib.hid HNX
  have HPA := fun w2 => parse_any k2 w2 (by unfold maxLen; omega)
  have HNE := Lib.hid (show parseL k2.data.toList = numT k2 from rfl)
  rw [HNE.out] at HPA
  have HPA := Lib.hid HPA
  generalize numT k2 = v at *
  obtain ⟨v1, v2⟩ := v
  simp only at HNR
  by_cases hk : k1 = 2 ∧ v2 = 0
  · have HXX := Lib.hid (HNR.out.1 hk)
    obtain ⟨rfl, rfl⟩ := hk
    rw [HXX.out]
    go_enter Tryz.func44, Tryz.ntmps44
    go_wp2_with fail
    refine (HP.out).mono ?_
    rintro e w2 ⟨rfl, hb⟩
    have HB := Lib.hid (below_alloc hb (.cells #[.int .i64 2, .string k2, .int .i64 k3] 75))
    clear hb
    go_wp2_with fail
    refine (HPA.out _).mono ?_
    rintro e w3 ⟨rfl, m, rfl⟩
    have HB3 := Lib.hid (below_drewN HB.out m)
    have HN := Lib.hid (HNX.out _ (HR.out.below HB3.out))
    go_wp2_with fail
    refine (HN.out).mono ?_
    rintro e w4 ⟨rfl, hr4, hg4⟩
    have HG := Lib.hid (grown_thenR (grown_below HB3.out) hg4)
    have HR4 := Lib.hid hr4
    clear hg4 hr4
    go_wp2_with fail
    go_ret
    exact ⟨rfl, HR4.out, HG.out⟩
  · have HXX := Lib.hid (HNR.out.2 hk)
    rw [HXX.out]
    by_cases hk1 : k1 = 2
    · subst hk1
      have hv2 : ¬ (v2 : Int) = 0 := fun e => hk ⟨rfl, by omega⟩
      have hvb : ((v2 : Int) == 0) = false := by rw [beq_eq_false_iff_ne]; exact hv2
      go_enter Tryz.func44, Tryz.ntmps44
      go_wp2_with fail
      refine (HP.out).mono ?_
      rintro e w2 ⟨rfl, hb⟩
      have HB := Lib.hid (below_alloc hb (.cells #[.int .i64 2, .string k2, .int .i64 k3] 75))
      clear hb
      go_wp2_with fail
      refine (HPA.out _).mono ?_
      rintro e w3 ⟨rfl, m, rfl⟩
      have HB3 := Lib.hid (below_drewN HB.out m)
      have HF := Lib.hid (fail_any _ 110 (HR.out.below HB3.out))
      go_wp2_with fail
      refine (HF.out).mono ?_
      rintro e w4 ⟨rfl, hr4, hg4⟩
      have HG := Lib.hid (grown_thenR (grown_below HB3.out) hg4)
      have HR4 := Lib.hid hr4
      clear hg4 hr4
      go_wp2_with fail
      go_ret
      exact ⟨rfl, HR4.out, HG.out⟩
    · have hkb : (k1 == 2) = false := by simpa using hk1
      go_enter Tryz.func44, Tryz.ntmps44
      go_wp2_with fail
      refine (HP.out).mono ?_
      rintro e w2 ⟨rfl, hb⟩
      have HB := Lib.hid (below_alloc hb (.cells #[.int .i64 k1, .string k2, .int .i64 k3] 75))
      clear hb
      go_wp2_with fail
      refine (HPA.out _).mono ?_
      rintro e w3 ⟨rfl, m, rfl⟩
      have HB3 := Lib.hid (below_drewN HB.out m)
      have HF := Lib.hid (fail_any _ 110 (HR.out.below HB3.out))
      go_wp2_with fail
      refine (HF.out).mono ?_
      rintro e w4 ⟨rfl, hr4, hg4⟩
      have HG := Lib.hid (grown_thenR (grown_below HB3.out) hg4)
      have HR4 := Lib.hid hr4
      clear hg4 hr4
      go_wp2_with fail
      go_ret
      exact ⟨rfl, HR4.out, HG.out⟩
def smallR (tk : List Tk) (s : RS) (most : Nat) : Nat × RS := if (peekR tk s).1 = 2 ∧ (numT (peekR tk s).2.1).2 = 0 ∧ most ≤ (numT (peekR tk s).2.1).1 then (0, failR tk s 1) else numberR tk s
theorem smallR_lt (tk : List Tk) (s : RS) (most : Nat) (h : 0 < most) : (smallR tk s most).1 < most := by
  unfold smallR
  by_cases h1 : (peekR tk s).1 = 2 ∧ (numT (peekR tk s).2.1).2 = 0 ∧ most ≤ (numT (peekR tk s).2.1).1
  · rw [if_pos h1]; exact h
  · rw [if_neg h1]
    unfold numberR
    by_cases h2 : (peekR tk s).1 = 2 ∧ (numT (peekR tk s).2.1).2 = 0
    · rw [if_pos h2]
      have : ¬ most ≤ (numT (peekR tk s).2.1).1 := fun h3 => h1 ⟨h2.1, h2.2, h3⟩
      exact Nat.lt_of_not_le this
    · rw [if_neg h2]; exact h
set_option maxRecDepth 100000 in
set_option maxHeartbeats 1600000 in
theorem small_any {r n : Nat} {p : Option Addr} {c : Nat} {tk : List Tk} {s : RS} (w : World) (most : Nat) (h0 : 0 < most) (h63 : most ≤ 1000000) (h : RdrAt w r n p c tk s) :
    Calls Tryz.prog 47 #[.pointer (some ⟨r, 0, none⟩), .int .i64 most] w fun e w' => e = .returned (.int .i64 ((smallR tk s most).1 : Nat)) ∧ RdrAt w' r n p c tk (smallR tk s most).2 ∧ w.grownBy w' (some r) := by
  have HR := Lib.hid h
  have HP := peek_any w h
  have hsz := h.peek_size
  have HSL := smallR_lt tk s most h0
  have HNR := Lib.hid (show ((peekR tk s).1 = 2 ∧ (numT (peekR tk s).2.1).2 = 0 ∧ most ≤ (numT (peekR tk s).2.1).1 → smallR tk s most = (0, failR tk s 1)) ∧ (¬ ((peekR tk s).1 = 2 ∧ (numT (peekR tk s).2.1).2 = 0 ∧ most ≤ (numT (peekR tk s).2.1).1) → smallR tk s most = numberR tk s) from ⟨fun e => by unfold smallR; rw [if_pos e], fun e => by unfold smallR; rw [if_neg e]⟩)
  have HVL := parseL_lt (peekR tk s).2.1.data.toList
  clear h
  generalize peekR tk s = t at *
  obtain ⟨k1, k2, k3⟩ := t
  simp only [tkV] at HP hsz HVL
  have HP := Lib.hid HP
  have HPA := fun w2 => parse_any k2 w2 (by unfold maxLen; omega)
  have HNE := Lib.hid (show parseL k2.data.toList = numT k2 from rfl)
  rw [HNE.out] at HPA HVL
  have HPA := Lib.hid HPA
  generalize numT k2 = v at *
  obtain ⟨v1, v2⟩ := v
  simp only at HNR HVL
  have HNX := Lib.hid (fun w2 (hb : RdrAt w2 r n p c tk s) => number_any w2 hb)
  have hwm : IntKind.u64.wrap ((most : Nat) : Int) = (most : Int) := by rw [IntKind.wrap_u64]; omega
  by_cases hk : k1 = 2 ∧ v2 = 0 ∧ most ≤ v1
  · have HXX := Lib.hid (HNR.out.1 hk)
    obtain ⟨rfl, rfl, hge⟩ := hk
    rw [HXX.out]
    have hgi : (most : Int) ≤ v1 := by omega
    go_enter Tryz.func47, Tryz.ntmps47
    go_wp2_with fail
    refine (HP.out).mono ?_
    rintro e w2 ⟨rfl, hb⟩
    have HB := Lib.hid (below_alloc hb (.cells #[.int .i64 2, .string k2, .int .i64 k3] 75))
    clear hb
    go_wp2_with fail
    refine (HPA.out _).mono ?_
    rintro e w3 ⟨rfl, m, rfl⟩
    have HB3 := Lib.hid (below_drewN HB.out m)
    have HF := Lib.hid (fail_any _ 1 (HR.out.below HB3.out))
    go_wp2_with fail
    refine (HF.out).mono ?_
    rintro e w4 ⟨rfl, hr4, hg4⟩
    have HG := Lib.hid (grown_thenR (grown_below HB3.out) hg4)
    have HR4 := Lib.hid hr4
    clear hg4 hr4
    go_wp2_with fail
    go_ret
    exact ⟨rfl, HR4.out, HG.out⟩
  · have HXX := Lib.hid (HNR.out.2 hk)
    rw [HXX.out] at HSL ⊢
    obtain ⟨q, hq⟩ : ∃ q, numberR tk s = q := ⟨_, rfl⟩
    obtain ⟨q1, q2⟩ := q
    rw [hq] at HNX HSL ⊢
    have hwq : IntKind.i64.wrap ((q1 : Nat) : Int) = (q1 : Int) := IntWalk.i64_in _ (by simp at HSL; omega)
    have hcase : k1 ≠ 2 ∨ (k1 = 2 ∧ v2 ≠ 0) ∨ (k1 = 2 ∧ v2 = 0 ∧ ¬ most ≤ v1) := by omega
    rcases hcase with hk1 | ⟨rfl, hv⟩ | ⟨rfl, rfl, hge⟩
    · have hkb : (k1 == 2) = false := by simpa using hk1
      go_enter Tryz.func47, Tryz.ntmps47
      go_wp2_with fail
      refine (HP.out).mono ?_
      rintro e w2 ⟨rfl, hb⟩
      have HB := Lib.hid (below_alloc hb (.cells #[.int .i64 k1, .string k2, .int .i64 k3] 75))
      clear hb
      go_wp2_with fail
      refine (HPA.out _).mono ?_
      rintro e w3 ⟨rfl, m, rfl⟩
      have HB3 := Lib.hid (below_drewN HB.out m)
      have HF := Lib.hid (HNX.out _ (HR.out.below HB3.out))
      go_wp2_with fail
      refine (HF.out).mono ?_
      rintro e w4 ⟨rfl, hr4, hg4⟩
      have HG := Lib.hid (grown_thenR (grown_below HB3.out) hg4)
      have HR4 := Lib.hid hr4
      clear hg4 hr4
      go_wp2_with fail
      go_ret
      exact ⟨by first | rfl | simp [hwq], HR4.out, HG.out⟩
    · have hvb : ((v2 : Int) == 0) = false := by rw [beq_eq_false_iff_ne]; omega
      have hv2 : ¬ (v2 : Int) = 0 := by omega
      go_enter Tryz.func47, Tryz.ntmps47
      go_wp2_with fail
      refine (HP.out).mono ?_
      rintro e w2 ⟨rfl, hb⟩
      have HB := Lib.hid (below_alloc hb (.cells #[.int .i64 2, .string k2, .int .i64 k3] 75))
      clear hb
      go_wp2_with fail
      refine (HPA.out _).mono ?_
      rintro e w3 ⟨rfl, m, rfl⟩
      have HB3 := Lib.hid (below_drewN HB.out m)
      have HF := Lib.hid (HNX.out _ (HR.out.below HB3.out))
      go_wp2_with fail
      refine (HF.out).mono ?_
      rintro e w4 ⟨rfl, hr4, hg4⟩
      have HG := Lib.hid (grown_thenR (grown_below HB3.out) hg4)
      have HR4 := Lib.hid hr4
      clear hg4 hr4
      go_wp2_with fail
      go_ret
      exact ⟨by first | rfl | simp [hwq], HR4.out, HG.out⟩
    · have hgi : ¬ (most : Int) ≤ v1 := by omega
      have hgd : decide ((most : Int) ≤ v1) = false := decide_eq_false hgi
      go_enter Tryz.func47, Tryz.ntmps47
      go_wp2_with fail
      refine (HP.out).mono ?_
      rintro e w2 ⟨rfl, hb⟩
      have HB := Lib.hid (below_alloc hb (.cells #[.int .i64 2, .string k2, .int .i64 k3] 75))
      clear hb
      go_wp2_with fail
      refine (HPA.out _).mono ?_
      rintro e w3 ⟨rfl, m, rfl⟩
      have HB3 := Lib.hid (below_drewN HB.out m)
      have HF := Lib.hid (HNX.out _ (HR.out.below HB3.out))
      go_wp2_with fail
      refine (HF.out).mono ?_
      rintro e w4 ⟨rfl, hr4, hg4⟩
      have HG := Lib.hid (grown_thenR (grown_below HB3.out) hg4)
      have HR4 := Lib.hid hr4
      clear hg4 hr4
      go_wp2_with fail
      go_ret
      exact ⟨by first | rfl | simp [hwq], HR4.out, HG.out⟩
end Go.Proofs.YtcaifejfkpmeeaaGreat

namespace Go.Proofs.YtcaifejfkpmeeaaGreat
open Go.RowKit Go.WideShapes Go.ChangeShapes

/-- These cells read as data of type t. -/
def Opens (P : Program) (w : World) (t : TypeId) (cs : List Value) : Prop :=
  ∃ (H : Type) (enc : TypeId × Value → H) (base : Nat) (spare : Nat → Bool) (held : Bool) (fuel : Nat) (x : DataW H × List MemPlace), DataW.trod enc P w base spare held fuel t cs = some x

section
variable {P : Program} {w : World} {t e : TypeId} {cs : List Value}
theorem opens_of {H : Type} {enc : TypeId × Value → H} {base : Nat} {spare : Nat → Bool} {held : Bool} {v : Value} {d : DataW H} {p : List MemPlace} (h : DataW.Trod enc P w base spare held t v d p) : Opens P w t v.cells.toList := by
  obtain ⟨fuel, hf⟩ := h
  exact ⟨H, enc, base, spare, held, fuel, (d, p), hf⟩
theorem opens_int {k : IntKind} (ht : P.underlying t = some (.int k)) (h : Opens P w t cs) : ∃ n, cs = [.int k n] ∧ (Lit.int k n).wf = true := by
  obtain ⟨_, _, _, _, _, _, _, hf⟩ := h
  obtain ⟨n, h1, _, h2⟩ := DataW.trod_int ht hf
  exact ⟨n, h1, h2⟩
theorem opens_bool (ht : P.underlying t = some .bool) (h : Opens P w t cs) : ∃ b, cs = [.bool b] := by
  obtain ⟨_, _, _, _, _, _, _, hf⟩ := h
  obtain ⟨b, h1, _⟩ := DataW.trod_bool ht hf
  exact ⟨b, h1⟩
theorem opens_string (ht : P.underlying t = some .string) (h : Opens P w t cs) : ∃ s : ByteArray, cs = [.string s] ∧ s.size ≤ maxLen := by
  obtain ⟨_, _, _, _, _, _, _, hf⟩ := h
  obtain ⟨s, h1, _, h2⟩ := DataW.trod_string ht hf
  exact ⟨s, h1, h2⟩
theorem opens_struct {fs : Array Field} (ht : P.underlying t = some (.struct fs)) (h : Opens P w t cs) :
    cs.length = P.cellsOf t ∧ ∀ (i : Nat) (f : Field), fs[i]? = some f → Opens P w f.type ((cs.drop f.offset).take (P.cellsOf f.type)) := by
  obtain ⟨H, enc, base, spare, held, fuel, x, hf⟩ := h
  obtain ⟨xs, n, _, _, hl, hx, hi⟩ := DataW.trod_struct ht hf
  refine ⟨hl, fun i f hf' => ?_⟩
  have hlt : i < fs.size := (Array.getElem?_eq_some_iff.1 hf').1
  have h1 := hi i f hf'
  rw [List.getElem?_eq_getElem (show i < xs.length by omega)] at h1
  exact ⟨H, enc, base, spare, held, n, _, h1⟩
theorem opens_array {n : Nat} (ht : P.underlying t = some (.array n e)) (h : Opens P w t cs) :
    cs.length = P.cellsOf t ∧ ∀ i, i < n → Opens P w e ((cs.drop (i * P.cellsOf e)).take (P.cellsOf e)) := by
  obtain ⟨H, enc, base, spare, held, fuel, x, hf⟩ := h
  obtain ⟨xs, m, _, _, hl, hx, hi⟩ := DataW.trod_array ht hf
  refine ⟨hl, fun i hin => ?_⟩
  have h1 := hi i hin
  rw [List.getElem?_eq_getElem (show i < xs.length by omega)] at h1
  exact ⟨H, enc, base, spare, held, m, _, h1⟩
theorem opens_slice (ht : P.underlying t = some (.slice e)) (h : Opens P w t cs) :
    cs = [.slice none 0 0] ∨ ∃ (a : Addr) (len cap : Nat), cs = [.slice (some a) len cap] ∧ len ≤ cap ∧ cap ≤ maxLen ∧
      ∀ i, i < len → ∃ es, es.length = P.cellsOf e ∧ (∀ j, j < P.cellsOf e → w.cell? ((a.add (i * P.cellsOf e)).add j) = es[j]?) ∧ Opens P w e es := by
  obtain ⟨H, enc, base, spare, held, fuel, x, hf⟩ := h
  rcases DataW.trod_slice ht hf with ⟨h1, _⟩ | ⟨a, len, cap, elems, rest, n, _, h1, _, _, hlc, hcm, hel, hi, _, _⟩
  · exact .inl h1
  · refine .inr ⟨a, len, cap, h1, hlc, hcm, fun i hil => ?_⟩
    have h2 := hi i hil
    rw [List.getElem?_eq_getElem (show i < elems.length by omega)] at h2
    obtain ⟨es, h3, h4⟩ := Option.bind_eq_some_iff.1 h2
    obtain ⟨_, h5, h6⟩ := World.cells?_some h3
    exact ⟨es, h5, h6, H, enc, base, spare, held, n, _, h4⟩

/-- A slice of integers: its numbers. -/
theorem opens_ints {k : IntKind} (ht : P.underlying t = some (.slice e)) (he : P.underlying e = some (.int k)) (hc : P.cellsOf e = 1) (h : Opens P w t cs) :
    ∃ (p : Option Addr) (cap : Nat) (zs : List Int), cs = [.slice p zs.length cap] ∧ zs.length ≤ cap ∧ cap ≤ maxLen ∧ (∀ z ∈ zs, (Lit.int k z).wf = true) ∧
      (p = none → zs = [] ∧ cap = 0) ∧ ∀ j, j < zs.length → ∃ b off, p = some ⟨b, off, none⟩ ∧ w.cell? ⟨b, off + j, none⟩ = some (.int k (zs.getD j 0)) := by
  rcases opens_slice ht h with rfl | ⟨a, len, cap, rfl, hlc, hcm, hi⟩
  · exact ⟨none, 0, [], rfl, Nat.le_refl _, by unfold maxLen; omega, (fun _ h => by cases h), fun _ => ⟨rfl, rfl⟩, fun j hj => by cases hj⟩
  · have hz : ∀ i, i < len → ∃ z : Int, w.cell? (a.add i) = some (.int k z) ∧ (Lit.int k z).wf = true := by
      intro i hil
      obtain ⟨es, hl, hcell, ho⟩ := hi i hil
      obtain ⟨z, rfl, hw⟩ := opens_int he ho
      have h0 := hcell 0 (by omega)
      rw [hc, Nat.mul_one] at h0
      exact ⟨z, by simpa [Addr.add] using h0, hw⟩
    let zs : List Int := (List.range len).map fun i => intOf ((w.cell? (a.add i)).getD undef)
    have hzl : zs.length = len := by simp [zs]
    have hat : ∀ i (hil : i < len), w.cell? (a.add i) = some (.int k (zs.getD i 0)) ∧ (Lit.int k (zs.getD i 0)).wf = true := by
      intro i hil
      obtain ⟨z, h1, h2⟩ := hz i hil
      have : zs.getD i 0 = z := by simp [zs, List.getD, hil, h1, intOf]
      rw [this]; exact ⟨h1, h2⟩
    refine ⟨some a, cap, zs, by rw [hzl], by omega, hcm, ?_, (fun h => by cases h), fun j hj => ?_⟩
    · intro z hm
      obtain ⟨i, hil, rfl⟩ := List.getElem_of_mem hm
      have := (hat i (by omega)).2
      simpa [List.getD, List.getElem?_eq_getElem hil] using this
    · have h1 := (hat j (by omega)).1
      have hsp : a.spot = none := by
        by_cases h0 : a.spot = none
        · exact h0
        · exfalso
          have h2 := (hat 0 (by omega)).1
          simp only [Addr.add, if_pos] at h2
          unfold World.cell? at h2
          cases hs : a.spot with
          | none => exact h0 hs
          | some x => rw [hs] at h2; split at h2 <;> simp at h2
      obtain ⟨b, off, sp⟩ := a
      simp only at hsp
      subst hsp
      refine ⟨b, off, rfl, ?_⟩
      rw [← addr_add]; exact h1
/-- A slice of integers that came in. -/
theorem open_ints_arg {H : Type} {enc : TypeId × Value → H} {base : Nat} {spare : Nat → Bool} {held : Bool} {r : Reach} {b0 : Nat} {v : Value} {d : DataW H} {ps : List MemPlace} {k : IntKind} (ht : P.underlying t = some (.slice e)) (he : P.underlying e = some (.int k)) (hc : P.cellsOf e = 1)
    (hv : Value.okWide P w r b0 t v) (h : DataW.Trod enc P w base spare held t v d ps) :
    ∃ (p : Option Addr) (cap : Nat) (zs : List Int), v = .slice p zs.length cap ∧ zs.length ≤ 9223372036854775807 ∧ Rds w 1 p zs.length (zs.map (Value.int k)) ∧ ∀ z ∈ zs, (Lit.int k z).wf = true := by
  obtain ⟨a, len, cap, rfl⟩ := okWide_slice ht hv
  have ho := opens_of h
  change Opens P w t [.slice a len cap] at ho
  obtain ⟨p, cap', zs, e0, hzc, hcm, hw, _, hat⟩ := opens_ints ht he hc ho
  injection e0 with e0
  refine ⟨p, cap', zs, e0, by unfold maxLen at hcm; omega, ⟨by simp, fun hn => ?_⟩, hw⟩
  obtain ⟨b, off, hp, _⟩ := hat 0 hn
  refine ⟨b, off, hp, fun j hj => ?_⟩
  obtain ⟨b2, off2, hp2, hcell⟩ := hat j (by omega)
  rw [hp] at hp2
  injection hp2 with hp2
  injection hp2 with e1 e2
  subst e1 e2
  rw [hcell]
  simp [List.getD, List.getElem?_eq_getElem (show j < zs.length by omega)]
end
end Go.Proofs.YtcaifejfkpmeeaaGreat
