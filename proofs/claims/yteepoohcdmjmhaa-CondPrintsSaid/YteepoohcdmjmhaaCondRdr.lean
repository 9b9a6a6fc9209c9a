/- The reader of tokens: what each of its functions does. -/
import Derived.Test.YteepoohcdmjmhaaLexTokensP
import Derived.Test.YteepoohcdmjmhaaRds
import Derived.StillTailTactics
namespace Go.Proofs.Yteepoohcdmjmhaa
open Go.RowKit
set_option linter.unusedVariables false
set_option linter.unusedSimpArgs false

/-- A token: its sort, its text, its place. -/
abbrev Tk := Int × ByteArray × Int
def tkV (t : Tk) : Value := .agg #[.int .i64 t.1, .string t.2.1, .int .i64 t.2.2]
def tkL (l : List Tk) : List Value := l.flatMap fun t => [.int .i64 t.1, .string t.2.1, .int .i64 t.2.2]
theorem tkL_get : ∀ (l : List Tk) (i : Nat) (h : i < l.length), (tkL l)[i * 3]? = some (.int .i64 l[i].1) ∧ (tkL l)[i * 3 + 1]? = some (.string l[i].2.1) ∧ (tkL l)[i * 3 + 2]? = some (.int .i64 l[i].2.2)
  | [], i, h => by simp at h
  | t :: l, 0, h => by simp [tkL]
  | t :: l, i + 1, h => by
    have := tkL_get l i (by simpa using h)
    have e : tkL (t :: l) = [.int .i64 t.1, .string t.2.1, .int .i64 t.2.2] ++ tkL l := by simp [tkL]
    rw [e, show (i + 1) * 3 = i * 3 + 3 by omega]
    simpa using this
/-- Where a reader stands: at a token; with a fault's number and place. -/
structure RS where
  k : Nat
  code : Int
  at_ : Int
def peekR (tk : List Tk) (s : RS) : Tk := tk.getD s.k (4, ByteArray.empty, 0)
def onR (s : RS) : RS := { s with k := s.k + 1 }
def nextR (tk : List Tk) (s : RS) : RS := if (peekR tk s).1 = 4 then s else onR s
def failR (tk : List Tk) (s : RS) (e : Int) : RS := if s.code = 0 then { s with code := e, at_ := (peekR tk s).2.2 } else s
def isR (tk : List Tk) (s : RS) (kind : Int) (text : ByteArray) : Bool := decide ((peekR tk s).1 = kind) && decide ((peekR tk s).2.1 = text)
def RdrAt (w : World) (r n : Nat) (p : Option Addr) (c : Nat) (tk : List Tk) (s : RS) : Prop :=
  Blk w 67 r [.slice p n c, .int .i64 (s.k : Nat), .int .i64 s.code, .int .i64 s.at_] ∧ Rds w 3 p n (tkL tk) ∧ tk.length = n ∧ (∀ a, p = some a → a.block ≠ r) ∧ s.k ≤ n ∧ n ≤ 1048577 ∧ ∀ t ∈ tk, t.2.1.size ≤ 1048576
section
variable {w w' : World} {r n : Nat} {p : Option Addr} {c : Nat} {tk : List Tk} {s : RS}
theorem RdrAt.below (h : RdrAt w r n p c tk s) (hb : Below w.heap.size w w') : RdrAt w' r n p c tk s := ⟨h.1.below hb, h.2.1.below hb, h.2.2⟩
theorem RdrAt.dn (h : RdrAt w r n p c tk s) (k : Nat) : RdrAt (w.drewN k) r n p c tk s := h
theorem RdrAt.lt (h : RdrAt w r n p c tk s) : r < w.heap.size := h.1.lt
theorem RdrAt.peek_in (h : RdrAt w r n p c tk s) (hk : s.k < n) : ∃ g off, p = some ⟨g, off, none⟩ ∧ g ≠ r ∧ w.cell? ⟨g, off + s.k * 3, none⟩ = some (.int .i64 (peekR tk s).1) ∧ w.cell? ⟨g, off + s.k * 3 + 1, none⟩ = some (.string (peekR tk s).2.1) ∧ w.cell? ⟨g, off + s.k * 3 + 2, none⟩ = some (.int .i64 (peekR tk s).2.2) := by
  obtain ⟨_, ⟨_, hr⟩, hl, hne, _⟩ := h
  obtain ⟨g, off, hp, hc⟩ := hr (by omega)
  have hk' : s.k < tk.length := by omega
  have hpk : peekR tk s = tk[s.k] := by unfold peekR; simp [List.getD_eq_getElem?_getD, hk']
  obtain ⟨h0, h1, h2⟩ := tkL_get tk s.k hk'
  rw [hpk]
  refine ⟨g, off, hp, hne _ hp, (hc _ (by omega)).trans h0, ?_, ?_⟩
  · exact (hc (s.k * 3 + 1) (by omega)).trans h1
  · exact (hc (s.k * 3 + 2) (by omega)).trans h2
theorem peek_out (hk : ¬ s.k < tk.length) : peekR tk s = (4, ByteArray.empty, 0) := by
  unfold peekR; rw [List.getD_eq_getElem?_getD, List.getElem?_eq_none (by omega)]; rfl
end

theorem toList_ne {a b : ByteArray} (h : ¬ a = b) : (a.toList == b.toList) = false := by
  rw [beq_eq_false_iff_ne]
  intro e
  rw [toList_ba, toList_ba] at e
  exact h (ByteArray.ext (Array.toList_inj.1 e))
theorem tok_field0 (a : Int) (b : ByteArray) (c : Int) (w : World) : (Instr.field 63 (.agg #[.int .i64 a, .string b, .int .i64 c]) 0).run Try.prog w = .ok (.int .i64 a) w := by kernel_rfl
theorem tok_field2 (a : Int) (b : ByteArray) (c : Int) (w : World) : (Instr.field 63 (.agg #[.int .i64 a, .string b, .int .i64 c]) 2).run Try.prog w = .ok (.int .i64 c) w := by kernel_rfl
theorem blk_set3 {w : World} {T : TypeId} {g : Nat} {a b c : Value} (h : Blk w T g [a, b, c]) (x y z : Value) : Blk (((w.setCell ⟨g, 0, none⟩ x).setCell ⟨g, 1, none⟩ y).setCell ⟨g, 2, none⟩ z) T g [x, y, z] := by
  simpa using ((h.set 0 x).set 1 y).set 2 z
theorem blk_other3 {w : World} {T : TypeId} {r g : Nat} {cs : List Value} (h : Blk w T r cs) (hne : r ≠ g) (x y z : Value) : Blk (((w.setCell ⟨g, 0, none⟩ x).setCell ⟨g, 1, none⟩ y).setCell ⟨g, 2, none⟩ z) T r cs :=
  ((h.other (p := ⟨g, 0, none⟩) hne x).other (p := ⟨g, 1, none⟩) hne y).other (p := ⟨g, 2, none⟩) hne z
theorem below_set3 {w w' : World} {B g : Nat} (h : Below B w w') (hg : B ≤ g) (x y z : Value) : Below B w (((w'.setCell ⟨g, 0, none⟩ x).setCell ⟨g, 1, none⟩ y).setCell ⟨g, 2, none⟩ z) := ((h.setCell (by simpa using hg) _).setCell (by simpa using hg) _).setCell (by simpa using hg) _
theorem grown_set3 {w w' : World} {row : Option Nat} {g : Nat} (h : w.grownBy w' row) (hg : w.heap.size ≤ g) (x y z : Value) : w.grownBy (((w'.setCell ⟨g, 0, none⟩ x).setCell ⟨g, 1, none⟩ y).setCell ⟨g, 2, none⟩ z) row := by
  have h1 : ∀ {v : World} (j : Nat) (u : Value), w.grownBy v row → w.grownBy (v.setCell ⟨g, j, none⟩ u) row := fun j u h =>
    ⟨h.os, h.tape, h.output, by simpa using h.size, fun k hk hne => (Below.heap_setCell _ _ _ k (by simp; omega)).trans (h.block k hk hne)⟩
  exact h1 2 z (h1 1 y (h1 0 x h))

set_option maxRecDepth 100000 in
set_option maxHeartbeats 1600000 in
theorem peek_any {r n : Nat} {p : Option Addr} {c : Nat} {tk : List Tk} {s : RS} (w : World) (h : RdrAt w r n p c tk s) :
    Calls Try.prog 50 #[.pointer (some ⟨r, 0, none⟩)] w fun e w' => e = .returned (tkV (peekR tk s)) ∧ Below w.heap.size w w' := by
  have HR := Lib.hid h
  have HN := Lib.hid (show Blk (w.alloc (.cells #[.int .i64 0, .string ⟨#[]⟩, .int .i64 0] 63)) 63 w.heap.size [.int .i64 0, .string ⟨#[]⟩, .int .i64 0] from Blk.new _ _ _)
  have HB := Lib.hid (show Below w.heap.size w (w.alloc (.cells #[.int .i64 0, .string ⟨#[]⟩, .int .i64 0] 63)) from below_alloc (Below.refl _ _) _)
  have hr := h.below HB.out
  have HR1 := Lib.hid hr
  have c0 : (w.alloc (.cells #[.int .i64 0, .string ⟨#[]⟩, .int .i64 0] 63)).cell? ⟨r, 0, none⟩ = some (.slice p n c) := hr.1.cell 0
  have c1 : (w.alloc (.cells #[.int .i64 0, .string ⟨#[]⟩, .int .i64 0] 63)).cell? ⟨r, 1, none⟩ = some (.int .i64 (s.k : Nat)) := hr.1.cell 1
  have hk0 : (0 : Int) ≤ s.k := by omega
  by_cases hk : s.k < n
  · obtain ⟨g, off, hp, hgr, t0, t1, t2⟩ := hr.peek_in hk
    subst hp
    have hki : (s.k : Int) < n := by omega
    clear h hr
    generalize peekR tk s = t at *
    obtain ⟨k1, k2, k3⟩ := t
    simp only at t0 t1 t2
    go_enter Try.func50, Try.ntmps50
    go_wp2_with fail
    go_quiet (fail)
    go_wp2_with fail
    refine region_tail 10 (by kernel_rfl) (by kernel_rfl) ?_
    simp only [List.take_succ_cons, List.take_zero, List.drop_succ_cons, List.drop_zero]
    repeat still_step
    refine wpStill_nil ?_
    go_wp2_with fail
    exact bodyPost_ret (results_cell_row rfl _ _ w.heap.size 63 #[.int .i64 k1, .string k2, .int .i64 k3] (0, 0) _ rfl (blk_set3 (HN.out.dn _) _ _ _) Try.underlying63 rfl (by kernel_rfl)) rfl ⟨rfl, below_set3 (below_drewN HB.out _) (Nat.le_refl _) _ _ _⟩
  · have hki : ¬ (s.k : Int) < n := by omega
    have HPO := Lib.hid (peek_out (tk := tk) (s := s) (by have := h.2.2.1; omega))
    clear h hr
    go_enter Try.func50, Try.ntmps50
    go_wp2_with fail
    go_quiet (fail)
    go_wp2_with fail
    refine bodyPost_ret (results_cell_row rfl _ _ w.heap.size 63 #[.int .i64 4, .string ⟨#[]⟩, .int .i64 0] (0, 0) _ rfl (blk_set3 (HN.out.dn _) _ _ _) Try.underlying63 rfl (by kernel_rfl)) rfl ⟨?_, below_set3 (below_drewN HB.out _) (Nat.le_refl _) _ _ _⟩
    rw [HPO.out]; rfl

theorem Rds.grownR {w w' : World} {size n : Nat} {p : Option Addr} {xs : List Value} {row : Option Nat} (h : Rds w size p n xs) (hg : w.grownBy w' row) (hne : ∀ a, p = some a → some a.block ≠ row) : Rds w' size p n xs := by
  refine ⟨h.1, fun hn => ?_⟩
  obtain ⟨g, off, hp, hc⟩ := h.2 hn
  refine ⟨g, off, hp, fun j hj => ?_⟩
  have h1 := hc j hj
  rw [List.getElem?_eq_getElem (show j < xs.length by have := h.1; omega)] at h1 ⊢
  exact hg.cell h1 (hne ⟨g, off, none⟩ hp)
theorem RdrAt.kept {w w' : World} {r n : Nat} {p : Option Addr} {c : Nat} {tk : List Tk} {s s' : RS} (h : RdrAt w r n p c tk s) (hg : w.grownBy w' (some r)) (hb : Blk w' 67 r [.slice p n c, .int .i64 (s'.k : Nat), .int .i64 s'.code, .int .i64 s'.at_]) (hk : s'.k ≤ n) : RdrAt w' r n p c tk s' :=
  ⟨hb, h.2.1.grownR hg (fun a ha e => h.2.2.2.1 a ha (by injection e)), h.2.2.1, h.2.2.2.1, hk, h.2.2.2.2.2⟩
theorem RdrAt.peek_size {w : World} {r n : Nat} {p : Option Addr} {c : Nat} {tk : List Tk} {s : RS} (h : RdrAt w r n p c tk s) : (peekR tk s).2.1.size ≤ 1048576 := by
  by_cases hk : s.k < tk.length
  · have : peekR tk s = tk[s.k] := by unfold peekR; simp [List.getD_eq_getElem?_getD, hk]
    rw [this]; exact h.2.2.2.2.2.2 _ (List.getElem_mem hk)
  · rw [peek_out hk]; decide
theorem RdrAt.blk {w : World} {r n : Nat} {p : Option Addr} {c : Nat} {tk : List Tk} {s : RS} (h : RdrAt w r n p c tk s) : Blk w 67 r [.slice p n c, .int .i64 (s.k : Nat), .int .i64 s.code, .int .i64 s.at_] := h.1
theorem RdrAt.room {w : World} {r n : Nat} {p : Option Addr} {c : Nat} {tk : List Tk} {s : RS} (h : RdrAt w r n p c tk s) (hk : ¬ (peekR tk s).1 = 4) : s.k < n := by
  have := h.2.2.1
  apply Classical.byContradiction
  intro hn
  rw [peek_out (by omega)] at hk
  exact hk rfl
theorem grown_below {w w' : World} {row : Option Nat} (hb : Below w.heap.size w w') : w.grownBy w' row := ⟨hb.os, hb.tape, hb.output, hb.size, fun i hi _ => hb.block i hi⟩
theorem grown_thenR {a b c : World} {row : Option Nat} (h : a.grownBy b row) (k : b.grownBy c row) : a.grownBy c row :=
  ⟨k.os.trans h.os, k.tape.trans h.tape, k.output.trans h.output, Nat.le_trans h.size k.size, fun i hi hne => (k.block i (Nat.lt_of_lt_of_le hi h.size) hne).trans (h.block i hi hne)⟩
theorem grown_setR (w : World) (b j : Nat) (v : Value) : w.grownBy (w.setCell ⟨b, j, none⟩ v) (some b) :=
  ⟨rfl, rfl, rfl, by simp, fun k _ hne => Below.heap_setCell w _ v k (fun e => hne (by rw [e]))⟩

set_option maxRecDepth 100000 in
set_option maxHeartbeats 1600000 in
theorem next_any {r n : Nat} {p : Option Addr} {c : Nat} {tk : List Tk} {s : RS} (w : World) (h : RdrAt w r n p c tk s) :
    Calls Try.prog 53 #[.pointer (some ⟨r, 0, none⟩)] w fun e w' => e = .returned (tkV (peekR tk s)) ∧ RdrAt w' r n p c tk (nextR tk s) ∧ w.grownBy w' (some r) := by
  have HR := Lib.hid h
  have HN := Lib.hid (show Blk (w.alloc (.cells #[.int .i64 0, .string ⟨#[]⟩, .int .i64 0] 63)) 63 w.heap.size [.int .i64 0, .string ⟨#[]⟩, .int .i64 0] from Blk.new _ _ _)
  have HB := Lib.hid (show Below w.heap.size w (w.alloc (.cells #[.int .i64 0, .string ⟨#[]⟩, .int .i64 0] 63)) from below_alloc (Below.refl _ _) _)
  have HP := peek_any _ (h.below HB.out)
  have hrl := h.lt
  have HRM := Lib.hid (fun hk => h.room hk)
  have hn6 := h.2.2.2.2.2.1
  have HNX := Lib.hid (show ((peekR tk s).1 = 4 → nextR tk s = s) ∧ (¬ (peekR tk s).1 = 4 → nextR tk s = onR s) from ⟨fun e => by unfold nextR; rw [if_pos e], fun e => by unfold nextR; rw [if_neg e]⟩)
  clear h
  generalize peekR tk s = t at *
  obtain ⟨k1, k2, k3⟩ := t
  simp only [tkV] at HP ⊢
  have HP := Lib.hid HP
  go_enter Try.func53, Try.ntmps53
  go_wp2_with fail
  refine (HP.out).mono ?_
  rintro e w2 ⟨rfl, hb⟩
  have hz : w.heap.size < w2.heap.size := by have := hb.size; simp at this; omega
  have HN2 := Lib.hid (HN.out.below hb)
  have HB2 := Lib.hid (below_trans HB.out hb)
  have HR2 := Lib.hid (HR.out.below HB2.out)
  have hrz : r < w2.heap.size := by omega
  have r1 := HR2.out.blk.cell 1
  have rf := HR2.out.blk.free 1
  have n0 := HN2.out.cell 0
  have n1 := HN2.out.cell 1
  have n2 := HN2.out.cell 2
  have nf0 := HN2.out.free 0
  have nf1 := HN2.out.free 1
  have nf2 := HN2.out.free 2
  simp only [List.getElem?_cons_zero, List.getElem?_cons_succ] at r1 n0 n1 n2
  clear hb HP HB HN
  by_cases hk : k1 = 4
  · have HX := Lib.hid (HNX.out.1 hk)
    subst hk
    go_wp2_with fail
    refine bodyPost_ret (results_cell_row rfl _ _ w.heap.size 63 #[.int .i64 4, .string k2, .int .i64 k3] (0, 0) _ rfl ((blk_set3 HN2.out _ _ _).alloc _) Try.underlying63 rfl (by kernel_rfl)) rfl ⟨rfl, ?_, ?_⟩
    · rw [HX.out]
      exact HR.out.kept (grown_thenR (grown_set3 (grown_below HB2.out) (Nat.le_refl _) _ _ _) (World.grownBy_alloc _ _ _)) ((blk_other3 HR2.out.blk (by omega) _ _ _).alloc _) HR.out.2.2.2.2.1
    · exact grown_thenR (grown_set3 (grown_below HB2.out) (Nat.le_refl _) _ _ _) (World.grownBy_alloc _ _ _)
  · have HX := Lib.hid (HNX.out.2 hk)
    have hkl := HRM.out hk
    have hkb : (k1 == 4) = false := by simpa using hk
    have hwr : IntKind.i64.wrap ((s.k : Int) + 1) = ((s.k : Int) + 1) := IntWalk.i64_in _ (by omega)
    have HRS := Lib.hid (show Blk (w2.setCell ⟨r, 1, none⟩ (.int .i64 ((s.k : Int) + 1))) 67 r [.slice p n c, .int .i64 ((onR s).k : Nat), .int .i64 (onR s).code, .int .i64 (onR s).at_] from by simpa [onR] using HR2.out.blk.set 1 (.int .i64 ((s.k : Int) + 1)))
    have HNS := Lib.hid (HN2.out.other (p := ⟨r, 1, none⟩) (by simp; omega) (.int .i64 ((s.k : Int) + 1)))
    have HGS := Lib.hid (grown_thenR (grown_below (row := some r) HB2.out) (grown_setR w2 r 1 (.int .i64 ((s.k : Int) + 1))))
    go_wp2_with fail
    refine bodyPost_ret (results_cell_row rfl _ _ w.heap.size 63 #[.int .i64 k1, .string k2, .int .i64 k3] (0, 0) _ rfl ((blk_set3 HNS.out _ _ _).alloc _) Try.underlying63 rfl (by kernel_rfl)) rfl ⟨rfl, ?_, ?_⟩
    · rw [HX.out]
      exact HR.out.kept (grown_thenR (grown_set3 HGS.out (Nat.le_refl _) _ _ _) (World.grownBy_alloc _ _ _)) ((blk_other3 HRS.out (by omega) _ _ _).alloc _) hkl
    · exact grown_thenR (grown_set3 HGS.out (Nat.le_refl _) _ _ _) (World.grownBy_alloc _ _ _)

set_option maxRecDepth 100000 in
set_option maxHeartbeats 1600000 in
theorem fail_any {r n : Nat} {p : Option Addr} {c : Nat} {tk : List Tk} {s : RS} (w : World) (x : Int) (h : RdrAt w r n p c tk s) :
    Calls Try.prog 51 #[.pointer (some ⟨r, 0, none⟩), .int .i64 x] w fun e w' => e = .returned (.tuple #[]) ∧ RdrAt w' r n p c tk (failR tk s x) ∧ w.grownBy w' (some r) := by
  have HR := Lib.hid h
  have HP := peek_any w h
  have c2 := h.blk.cell 2
  simp only [List.getElem?_cons_zero, List.getElem?_cons_succ] at c2
  have HNX := Lib.hid (show (s.code = 0 → failR tk s x = { s with code := x, at_ := (peekR tk s).2.2 }) ∧ (¬ s.code = 0 → failR tk s x = s) from ⟨fun e => by unfold failR; rw [if_pos e], fun e => by unfold failR; rw [if_neg e]⟩)
  have hrl := h.lt
  clear h
  generalize peekR tk s = t at *
  obtain ⟨k1, k2, k3⟩ := t
  simp only [tkV] at HP
  have HP := Lib.hid HP
  by_cases hk : s.code = 0
  · have HX := Lib.hid (HNX.out.1 hk)
    rw [hk] at c2
    clear hk
    go_enter Try.func51, Try.ntmps51
    go_wp2_with fail
    refine (HP.out).mono ?_
    rintro e w2 ⟨rfl, hb⟩
    have HB2 := Lib.hid hb
    have HR2 := Lib.hid (HR.out.below hb)
    have r2 := HR2.out.blk.cell 2
    have r3 := HR2.out.blk.cell 3
    have rf2 := HR2.out.blk.free 2
    have rf3 := HR2.out.blk.free 3
    simp only [List.getElem?_cons_zero, List.getElem?_cons_succ] at r2 r3
    have HRS := Lib.hid (show Blk ((w2.setCell ⟨r, 2, none⟩ (.int .i64 x)).setCell ⟨r, 3, none⟩ (.int .i64 k3)) 67 r [.slice p n c, .int .i64 (s.k : Nat), .int .i64 x, .int .i64 k3] from by simpa using (HR2.out.blk.set 2 (.int .i64 x)).set 3 (.int .i64 k3))
    have HGS := Lib.hid (grown_thenR (grown_thenR (grown_below (row := some r) HB2.out) (grown_setR w2 r 2 (.int .i64 x))) (grown_setR _ r 3 (.int .i64 k3)))
    have hf2 := fun w => tok_field2 k1 k2 k3 w
    clear hb HP
    go_wp2_with fail
    go_end0
    exact ⟨rfl, by rw [HX.out]; exact HR.out.kept HGS.out HRS.out HR.out.2.2.2.2.1, HGS.out⟩
  · have HX := Lib.hid (HNX.out.2 hk)
    have hkb : (s.code == 0) = false := by simpa using hk
    go_enter Try.func51, Try.ntmps51
    go_wp2_with fail
    refine bodyPost_end (results_none rfl _ _ _) (by rfl) ?_
    exact ⟨rfl, by rw [HX.out]; exact HR.out, grown_below (Below.refl _ _)⟩
theorem rbad_any {r n : Nat} {p : Option Addr} {c : Nat} {tk : List Tk} {s : RS} (w : World) (h : RdrAt w r n p c tk s) :
    Calls Try.prog 16 #[.pointer (some ⟨r, 0, none⟩)] w fun e w' => e = .returned (.agg #[.int .i64 s.code, .int .i64 s.at_]) ∧ Below w.heap.size w w' := by
  have HN := Lib.hid (show Blk (w.alloc (.cells #[.int .i64 0, .int .i64 0] 33)) 33 w.heap.size [.int .i64 0, .int .i64 0] from Blk.new _ _ _)
  have HB := Lib.hid (show Below w.heap.size w (w.alloc (.cells #[.int .i64 0, .int .i64 0] 33)) from below_alloc (Below.refl _ _) _)
  have c2 := h.blk.cell 2
  have c3 := h.blk.cell 3
  simp only [List.getElem?_cons_zero, List.getElem?_cons_succ] at c2 c3
  have hrl := h.lt
  clear h
  go_enter Try.func16, Try.ntmps16
  go_wp2_with fail
  exact bodyPost_ret (results_cell_row rfl _ _ w.heap.size 33 #[.int .i64 s.code, .int .i64 s.at_] (0, 0) _ rfl (heap_alloc_new w _) Try.underlying33 rfl (by kernel_rfl)) rfl ⟨rfl, below_alloc (Below.refl _ _) _⟩

set_option maxRecDepth 100000 in
set_option maxHeartbeats 1600000 in
theorem is_any {r n : Nat} {p : Option Addr} {c : Nat} {tk : List Tk} {s : RS} (w : World) (kind : Int) (text : ByteArray) (h : RdrAt w r n p c tk s) :
    Calls Try.prog 48 #[.pointer (some ⟨r, 0, none⟩), .int .i64 kind, .string text] w fun e w' => e = .returned (.bool (isR tk s kind text)) ∧ RdrAt w' r n p c tk (if isR tk s kind text then nextR tk s else s) ∧ w.grownBy w' (some r) := by
  have HR := Lib.hid h
  have HP := peek_any w h
  have HIS := Lib.hid (show isR tk s kind text = (decide ((peekR tk s).1 = kind) && decide ((peekR tk s).2.1 = text)) from rfl)
  clear h
  generalize isR tk s kind text = b at *
  have HNX := Lib.hid (fun w2 (hb : RdrAt w2 r n p c tk s) => next_any w2 hb)
  generalize peekR tk s = t at *
  obtain ⟨k1, k2, k3⟩ := t
  simp only [tkV] at HP HNX
  have HP := Lib.hid HP
  by_cases hk : k1 = kind
  · subst hk
    by_cases ht : k2 = text
    · subst ht
      obtain rfl : b = true := by rw [HIS.out]; simp
      go_enter Try.func48, Try.ntmps48
      go_wp2_with fail
      refine (HP.out).mono ?_
      rintro e w2 ⟨rfl, hb⟩
      have HB := Lib.hid (below_alloc hb (.cells #[.int .i64 k1, .string k2, .int .i64 k3] 63))
      have HN := Lib.hid (HNX.out _ (HR.out.below HB.out))
      clear hb
      go_wp2_with fail
      refine (HN.out).mono ?_
      rintro e w3 ⟨rfl, hr3, hg3⟩
      have HG := Lib.hid (grown_thenR (grown_below HB.out) hg3)
      have HR3 := Lib.hid hr3
      clear hg3 hr3
      go_wp2_with fail
      go_ret
      exact ⟨rfl, HR3.out, HG.out⟩
    · obtain rfl : b = false := by rw [HIS.out]; simp [ht]
      have htb : (k2.toList == text.toList) = false := toList_ne ht
      go_enter Try.func48, Try.ntmps48
      go_wp2_with fail
      refine (HP.out).mono ?_
      rintro e w2 ⟨rfl, hb⟩
      have HB := Lib.hid (below_alloc hb (.cells #[.int .i64 k1, .string k2, .int .i64 k3] 63))
      clear hb
      go_wp2_with fail
      go_ret
      exact ⟨rfl, HR.out.below HB.out, grown_below HB.out⟩
  · obtain rfl : b = false := by rw [HIS.out]; simp [hk]
    have hkb : (k1 == kind) = false := by simpa using hk
    go_enter Try.func48, Try.ntmps48
    go_wp2_with fail
    refine (HP.out).mono ?_
    rintro e w2 ⟨rfl, hb⟩
    have HB := Lib.hid (below_alloc hb (.cells #[.int .i64 k1, .string k2, .int .i64 k3] 63))
    clear hb
    go_wp2_with fail
    go_ret
    exact ⟨rfl, HR.out.below HB.out, grown_below HB.out⟩
def mustR (tk : List Tk) (s : RS) (kind : Int) (text : ByteArray) : RS := if isR tk s kind text then nextR tk s else failR tk s 110
theorem must_any {r n : Nat} {p : Option Addr} {c : Nat} {tk : List Tk} {s : RS} (w : World) (kind : Int) (text : ByteArray) (h : RdrAt w r n p c tk s) :
    Calls Try.prog 54 #[.pointer (some ⟨r, 0, none⟩), .int .i64 kind, .string text] w fun e w' => e = .returned (.tuple #[]) ∧ RdrAt w' r n p c tk (mustR tk s kind text) ∧ w.grownBy w' (some r) := by
  have HI := is_any w kind text h
  have HM := Lib.hid (show mustR tk s kind text = if isR tk s kind text then nextR tk s else failR tk s 110 from rfl)
  clear h
  generalize isR tk s kind text = b at *
  have HI := Lib.hid HI
  go_enter Try.func54, Try.ntmps54
  go_wp2_with fail
  refine (HI.out).mono ?_
  rintro e w2 ⟨rfl, hr, hg⟩
  have HG := Lib.hid hg
  have HR := Lib.hid hr
  clear hr hg HI
  cases b
  · have HF := Lib.hid (fail_any w2 110 HR.out)
    go_wp2_with fail
    refine (HF.out).mono ?_
    rintro e w3 ⟨rfl, hr, hg⟩
    have HG3 := Lib.hid (grown_thenR HG.out hg)
    have HR3 := Lib.hid hr
    clear hr hg
    go_wp2_with fail
    go_end0
    exact ⟨rfl, by rw [HM.out]; exact HR3.out, HG3.out⟩
  · go_wp2_with fail
    go_end0
    exact ⟨rfl, by rw [HM.out]; exact HR.out, HG.out⟩
def endR (tk : List Tk) (s : RS) : RS := if (peekR tk s).1 = 4 then s else failR tk s 110
theorem end_any {r n : Nat} {p : Option Addr} {c : Nat} {tk : List Tk} {s : RS} (w : World) (h : RdrAt w r n p c tk s) :
    Calls Try.prog 40 #[.pointer (some ⟨r, 0, none⟩)] w fun e w' => e = .returned (.tuple #[]) ∧ RdrAt w' r n p c tk (endR tk s) ∧ w.grownBy w' (some r) := by
  have HR := Lib.hid h
  have HP := peek_any w h
  have HE := Lib.hid (show endR tk s = if (peekR tk s).1 = 4 then s else failR tk s 110 from rfl)
  clear h
  generalize peekR tk s = t at *
  obtain ⟨k1, k2, k3⟩ := t
  simp only [tkV] at HP
  have HP := Lib.hid HP
  have HX := Lib.hid (show (k1 = 4 → endR tk s = s) ∧ (¬ k1 = 4 → endR tk s = failR tk s 110) from ⟨fun e => by rw [HE.out, if_pos e], fun e => by rw [HE.out, if_neg e]⟩)
  by_cases hk : k1 = 4
  · have HXX := Lib.hid (HX.out.1 hk)
    clear HX HE
    subst hk
    have hf0 := fun w => tok_field0 4 k2 k3 w
    go_enter Try.func40, Try.ntmps40
    go_wp2_with fail
    refine (HP.out).mono ?_
    rintro e w2 ⟨rfl, hb⟩
    have HB := Lib.hid hb
    clear hb HP
    go_wp2_with fail
    go_end0
    exact ⟨rfl, by rw [HXX.out]; exact HR.out.below HB.out, grown_below HB.out⟩
  · have HX := Lib.hid (HX.out.2 hk)
    have hkb : (k1 == 4) = false := by simpa using hk
    have hf0 := fun w => tok_field0 k1 k2 k3 w
    go_enter Try.func40, Try.ntmps40
    go_wp2_with fail
    refine (HP.out).mono ?_
    rintro e w2 ⟨rfl, hb⟩
    have HB := Lib.hid hb
    have HF := Lib.hid (fail_any w2 110 (HR.out.below hb))
    clear hb HP
    go_wp2_with fail
    refine (HF.out).mono ?_
    rintro e w3 ⟨rfl, hr, hg⟩
    have HG3 := Lib.hid (grown_thenR (grown_below HB.out) hg)
    have HR3 := Lib.hid hr
    clear hr hg
    go_wp2_with fail
    go_end0
    exact ⟨rfl, by rw [HX.out]; exact HR3.out, HG3.out⟩
/-- What a text's number is. -/
def numT (s : ByteArray) : Nat × Nat := parseL s.data.toList
def numberR (tk : List Tk) (s : RS) : Nat × RS := if (peekR tk s).1 = 2 ∧ (numT (peekR tk s).2.1).2 = 0 then ((numT (peekR tk s).2.1).1, nextR tk s) else (0, failR tk s 110)
set_option maxRecDepth 100000 in
set_option maxHeartbeats 1600000 in
theorem number_any {r n : Nat} {p : Option Addr} {c : Nat} {tk : List Tk} {s : RS} (w : World) (h : RdrAt w r n p c tk s) :
    Calls Try.prog 55 #[.pointer (some ⟨r, 0, none⟩)] w fun e w' => e = .returned (.int .u64 ((numberR tk s).1 : Nat)) ∧ RdrAt w' r n p c tk (numberR tk s).2 ∧ w.grownBy w' (some r) := by
  have HR := Lib.hid h
  have HP := peek_any w h
  have hsz := h.peek_size
  have HNR := Lib.hid (show ((peekR tk s).1 = 2 ∧ (numT (peekR tk s).2.1).2 = 0 → numberR tk s = ((numT (peekR tk s).2.1).1, nextR tk s)) ∧ (¬ ((peekR tk s).1 = 2 ∧ (numT (peekR tk s).2.1).2 = 0) → numberR tk s = (0, failR tk s 110)) from ⟨fun e => by unfold numberR; rw [if_pos e], fun e => by unfold numberR; rw [if_neg e]⟩)
  have HNX := fun w2 (hb : RdrAt w2 r n p c tk s) => next_any w2 hb
  clear h
  generalize peekR tk s = t at *
  obtain ⟨k1, k2, k3⟩ := t
  simp only [tkV] at HP HNX hsz
  have HP := Lib.hid HP
  have HNX := Lib.hid HNX
  have HPA := fun w2 => parse_any k2 w2 (by unfold maxLen; omega)
  have HNE := Lib.hid (show parseL k2.data.toList = numT k2 from rfl)
  rw [HNE.out] at HPA
  have HPA := Lib.hid HPA
  generalize numT k2 = v at *
  obtain ⟨v1, v2⟩ := v
  simp only at HNR
  by_cases hk : k1 = 2 ∧ v2 = 0
  · have HXX := Lib.hid (HNR.out.1 hk)
    obtain ⟨rfl, rfl⟩ := hk
    rw [HXX.out]
    go_enter Try.func55, Try.ntmps55
    go_wp2_with fail
    refine (HP.out).mono ?_
    rintro e w2 ⟨rfl, hb⟩
    have HB := Lib.hid (below_alloc hb (.cells #[.int .i64 2, .string k2, .int .i64 k3] 63))
    clear hb
    go_wp2_with fail
    refine (HPA.out _).mono ?_
    rintro e w3 ⟨rfl, m, rfl⟩
    have HB3 := Lib.hid (below_drewN HB.out m)
    have HN := Lib.hid (HNX.out _ (HR.out.below HB3.out))
    go_wp2_with fail
    refine (HN.out).mono ?_
    rintro e w4 ⟨rfl, hr4, hg4⟩
    have HG := Lib.hid (grown_thenR (grown_below HB3.out) hg4)
    have HR4 := Lib.hid hr4
    clear hg4 hr4
    go_wp2_with fail
    go_ret
    exact ⟨rfl, HR4.out, HG.out⟩
  · have HXX := Lib.hid (HNR.out.2 hk)
    rw [HXX.out]
    by_cases hk1 : k1 = 2
    · subst hk1
      have hv2 : ¬ (v2 : Int) = 0 := fun e => hk ⟨rfl, by omega⟩
      have hvb : ((v2 : Int) == 0) = false := by rw [beq_eq_false_iff_ne]; exact hv2
      go_enter Try.func55, Try.ntmps55
      go_wp2_with fail
      refine (HP.out).mono ?_
      rintro e w2 ⟨rfl, hb⟩
      have HB := Lib.hid (below_alloc hb (.cells #[.int .i64 2, .string k2, .int .i64 k3] 63))
      clear hb
      go_wp2_with fail
      refine (HPA.out _).mono ?_
      rintro e w3 ⟨rfl, m, rfl⟩
      have HB3 := Lib.hid (below_drewN HB.out m)
      have HF := Lib.hid (fail_any _ 110 (HR.out.below HB3.out))
      go_wp2_with fail
      refine (HF.out).mono ?_
      rintro e w4 ⟨rfl, hr4, hg4⟩
      have HG := Lib.hid (grown_thenR (grown_below HB3.out) hg4)
      have HR4 := Lib.hid hr4
      clear hg4 hr4
      go_wp2_with fail
      go_ret
      exact ⟨rfl, HR4.out, HG.out⟩
    · have hkb : (k1 == 2) = false := by simpa using hk1
      go_enter Try.func55, Try.ntmps55
      go_wp2_with fail
      refine (HP.out).mono ?_
      rintro e w2 ⟨rfl, hb⟩
      have HB := Lib.hid (below_alloc hb (.cells #[.int .i64 k1, .string k2, .int .i64 k3] 63))
      clear hb
      go_wp2_with fail
      refine (HPA.out _).mono ?_
      rintro e w3 ⟨rfl, m, rfl⟩
      have HB3 := Lib.hid (below_drewN HB.out m)
      have HF := Lib.hid (fail_any _ 110 (HR.out.below HB3.out))
      go_wp2_with fail
      refine (HF.out).mono ?_
      rintro e w4 ⟨rfl, hr4, hg4⟩
      have HG := Lib.hid (grown_thenR (grown_below HB3.out) hg4)
      have HR4 := Lib.hid hr4
      clear hg4 hr4
      go_wp2_with fail
      go_ret
      exact ⟨rfl, HR4.out, HG.out⟩
def smallR (tk : List Tk) (s : RS) (most : Nat) : Nat × RS := if (peekR tk s).1 = 2 ∧ (numT (peekR tk s).2.1).2 = 0 ∧ most ≤ (numT (peekR tk s).2.1).1 then (0, failR tk s 1) else numberR tk s
theorem smallR_lt (tk : List Tk) (s : RS) (most : Nat) (h : 0 < most) : (smallR tk s most).1 < most := by
  unfold smallR
  by_cases h1 : (peekR tk s).1 = 2 ∧ (numT (peekR tk s).2.1).2 = 0 ∧ most ≤ (numT (peekR tk s).2.1).1
  · rw [if_pos h1]; exact h
  · rw [if_neg h1]
    unfold numberR
    by_cases h2 : (peekR tk s).1 = 2 ∧ (numT (peekR tk s).2.1).2 = 0
    · rw [if_pos h2]
      have : ¬ most ≤ (numT (peekR tk s).2.1).1 := fun h3 => h1 ⟨h2.1, h2.2, h3⟩
      exact Nat.lt_of_not_le this
    · rw [if_neg h2]; exact h
set_option maxRecDepth 100000 in
set_option maxHeartbeats 1600000 in
theorem small_any {r n : Nat} {p : Option Addr} {c : Nat} {tk : List Tk} {s : RS} (w : World) (most : Nat) (h0 : 0 < most) (h63 : most ≤ 1000000) (h : RdrAt w r n p c tk s) :
    Calls Try.prog 57 #[.pointer (some ⟨r, 0, none⟩), .int .i64 most] w fun e w' => e = .returned (.int .i64 ((smallR tk s most).1 : Nat)) ∧ RdrAt w' r n p c tk (smallR tk s most).2 ∧ w.grownBy w' (some r) := by
  have HR := Lib.hid h
  have HP := peek_any w h
  have hsz := h.peek_size
  have HSL := smallR_lt tk s most h0
  have HNR := Lib.hid (show ((peekR tk s).1 = 2 ∧ (numT (peekR tk s).2.1).2 = 0 ∧ most ≤ (numT (peekR tk s).2.1).1 → smallR tk s most = (0, failR tk s 1)) ∧ (¬ ((peekR tk s).1 = 2 ∧ (numT (peekR tk s).2.1).2 = 0 ∧ most ≤ (numT (peekR tk s).2.1).1) → smallR tk s most = numberR tk s) from ⟨fun e => by unfold smallR; rw [if_pos e], fun e => by unfold smallR; rw [if_neg e]⟩)
  have HVL := parseL_lt (peekR tk s).2.1.data.toList
  clear h
  generalize peekR tk s = t at *
  obtain ⟨k1, k2, k3⟩ := t
  simp only [tkV] at HP hsz HVL
  have HP := Lib.hid HP
  have HPA := fun w2 => parse_any k2 w2 (by unfold maxLen; omega)
  have HNE := Lib.hid (show parseL k2.data.toList = numT k2 from rfl)
  rw [HNE.out] at HPA HVL
  have HPA := Lib.hid HPA
  generalize numT k2 = v at *
  obtain ⟨v1, v2⟩ := v
  simp only at HNR HVL
  have HNX := Lib.hid (fun w2 (hb : RdrAt w2 r n p c tk s) => number_any w2 hb)
  have hwm : IntKind.u64.wrap ((most : Nat) : Int) = (most : Int) := by rw [IntKind.wrap_u64]; omega
  by_cases hk : k1 = 2 ∧ v2 = 0 ∧ most ≤ v1
  · have HXX := Lib.hid (HNR.out.1 hk)
    obtain ⟨rfl, rfl, hge⟩ := hk
    rw [HXX.out]
    have hgi : (most : Int) ≤ v1 := by omega
    go_enter Try.func57, Try.ntmps57
    go_wp2_with fail
    refine (HP.out).mono ?_
    rintro e w2 ⟨rfl, hb⟩
    have HB := Lib.hid (below_alloc hb (.cells #[.int .i64 2, .string k2, .int .i64 k3] 63))
    clear hb
    go_wp2_with fail
    refine (HPA.out _).mono ?_
    rintro e w3 ⟨rfl, m, rfl⟩
    have HB3 := Lib.hid (below_drewN HB.out m)
    have HF := Lib.hid (fail_any _ 1 (HR.out.below HB3.out))
    go_wp2_with fail
    refine (HF.out).mono ?_
    rintro e w4 ⟨rfl, hr4, hg4⟩
    have HG := Lib.hid (grown_thenR (grown_below HB3.out) hg4)
    have HR4 := Lib.hid hr4
    clear hg4 hr4
    go_wp2_with fail
    go_ret
    exact ⟨rfl, HR4.out, HG.out⟩
  · have HXX := Lib.hid (HNR.out.2 hk)
    rw [HXX.out] at HSL ⊢
    obtain ⟨q, hq⟩ : ∃ q, numberR tk s = q := ⟨_, rfl⟩
    obtain ⟨q1, q2⟩ := q
    rw [hq] at HNX HSL ⊢
    have hwq : IntKind.i64.wrap ((q1 : Nat) : Int) = (q1 : Int) := IntWalk.i64_in _ (by simp at HSL; omega)
    have hcase : k1 ≠ 2 ∨ (k1 = 2 ∧ v2 ≠ 0) ∨ (k1 = 2 ∧ v2 = 0 ∧ ¬ most ≤ v1) := by omega
    rcases hcase with hk1 | ⟨rfl, hv⟩ | ⟨rfl, rfl, hge⟩
    · have hkb : (k1 == 2) = false := by simpa using hk1
      go_enter Try.func57, Try.ntmps57
      go_wp2_with fail
      refine (HP.out).mono ?_
      rintro e w2 ⟨rfl, hb⟩
      have HB := Lib.hid (below_alloc hb (.cells #[.int .i64 k1, .string k2, .int .i64 k3] 63))
      clear hb
      go_wp2_with fail
      refine (HPA.out _).mono ?_
      rintro e w3 ⟨rfl, m, rfl⟩
      have HB3 := Lib.hid (below_drewN HB.out m)
      have HF := Lib.hid (HNX.out _ (HR.out.below HB3.out))
      go_wp2_with fail
      refine (HF.out).mono ?_
      rintro e w4 ⟨rfl, hr4, hg4⟩
      have HG := Lib.hid (grown_thenR (grown_below HB3.out) hg4)
      have HR4 := Lib.hid hr4
      clear hg4 hr4
      go_wp2_with fail
      go_ret
      exact ⟨by first | rfl | simp [hwq], HR4.out, HG.out⟩
    · have hvb : ((v2 : Int) == 0) = false := by rw [beq_eq_false_iff_ne]; omega
      have hv2 : ¬ (v2 : Int) = 0 := by omega
      go_enter Try.func57, Try.ntmps57
      go_wp2_with fail
      refine (HP.out).mono ?_
      rintro e w2 ⟨rfl, hb⟩
      have HB := Lib.hid (below_alloc hb (.cells #[.int .i64 2, .string k2, .int .i64 k3] 63))
      clear hb
      go_wp2_with fail
      refine (HPA.out _).mono ?_
      rintro e w3 ⟨rfl, m, rfl⟩
      have HB3 := Lib.hid (below_drewN HB.out m)
      have HF := Lib.hid (HNX.out _ (HR.out.below HB3.out))
      go_wp2_with fail
      refine (HF.out).mono ?_
      rintro e w4 ⟨rfl, hr4, hg4⟩
      have HG := Lib.hid (grown_thenR (grown_below HB3.out) hg4)
      have HR4 := Lib.hid hr4
      clear hg4 hr4
      go_wp2_with fail
      go_ret
      exact ⟨by first | rfl | simp [hwq], HR4.out, HG.out⟩
    · have hgi : ¬ (most : Int) ≤ v1 := by omega
      have hgd : decide ((most : Int) ≤ v1) = false := decide_eq_false hgi
      go_enter Try.func57, Try.ntmps57
      go_wp2_with fail
      refine (HP.out).mono ?_
      rintro e w2 ⟨rfl, hb⟩
      have HB := Lib.hid (below_alloc hb (.cells #[.int .i64 2, .string k2, .int .i64 k3] 63))
      clear hb
      go_wp2_with fail
      refine (HPA.out _).mono ?_
      rintro e w3 ⟨rfl, m, rfl⟩
      have HB3 := Lib.hid (below_drewN HB.out m)
      have HF := Lib.hid (HNX.out _ (HR.out.below HB3.out))
      go_wp2_with fail
      refine (HF.out).mono ?_
      rintro e w4 ⟨rfl, hr4, hg4⟩
      have HG := Lib.hid (grown_thenR (grown_below HB3.out) hg4)
      have HR4 := Lib.hid hr4
      clear hg4 hr4
      go_wp2_with fail
      go_ret
      exact ⟨by first | rfl | simp [hwq], HR4.out, HG.out⟩
end Go.Proofs.Yteepoohcdmjmhaa
